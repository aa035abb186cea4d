/- Part 20 of this proof. -/
import Derived.Test.YtpnakfeafekneaaGreatDoorG17
import Derived.Test.YtpnakfeafekneaaGreatDoorG19
set_option linter.unusedSimpArgs false
set_option linter.unusedVariables false
set_option maxHeartbeats 8000000
set_option maxRecDepth 100000
namespace Go.Proofs.YtpnakfeafekneaaGreatDoor
open Go.RowKit
theorem Xo [Inhabited LoT](b n:Nat)(h1:1≤n)(h2:n≤32)(d:List UInt8)(hd:d.length=32)(hf:Dg.form n d=true)(i:Nat)(hi:i<2*n)(w:World)(hb:XF w b n):
 Calls Tryz.prog 96 #[ptr b,dg d,.int .i64 i] w fun e w'=>e= .returned (.int .i64 (Dg.digit d i))∧Below w.heap.size w w':=by
 have HL:=hid (show (d.map b8).length=32 by simp[hd])
 have HB:=hid hb
 clear hb
 go_enter Tryz.func96,Tryz.ntmps96
 go_upto_region 1 with fail
 refine Qe (fun w'=>Blk w' w.heap.size 40 (d.map b8)∧Below w.heap.size w w'∧XF w' b n) ⟨Blk.new w _ _,Qb _ _,HB.out.grown (Qb _ _)⟩ ?_
 rintro w1 ⟨hb1,hbl1,hm1⟩
 have q0:=Fut.cell (show w1.cell? ⟨b,0,none⟩=some (.int .i64 n) from hm1)
 have hcf:∀ s:Fut w1,Calls Tryz.prog 89 #[.int .i64 n,dg d,.int .i64 i] s.v fun e w''=>e= .returned (.tuple #[.int .i64 (Dg.digit d i),.int .i64 0])∧∃ s':Fut w1,w''=s'.v:=fun s=>Calls.fut_of (Qgo n h1 h2 d hd hf i hi s.v)
 have HC:=hid (Qa hcf (Qa hb1.whole hbl1))
 clear hcf hb1 hbl1 hm1
 refine Qr (by kernel_rfl) (by kernel_rfl) ?_
 repeat (first
  |(go_big_quiet_want;(with_reducible refine QG 40 (.tmp 4) w.heap.size 0 _ 32 _ HL.out (QA HC.out.2.1) Tryz.underlying40 rfl (by kernel_rfl) ?_ ?_ ?_);rfl;rfl;simp only[Act.put,List.setIfInBounds_toArray,List.set_cons_zero,List.set_cons_succ];go_big_quiet_on)
  |go_big_quiet_step (with_reducible exact HC.out.1 _))
 refine wpQuiet_nil ?_
 rintro _ ⟨s,rfl⟩
 go_wp2_with fail
 go_ret
 exact⟨rfl,HC.out.2.2.trans (s.below.mono HC.out.2.2.size)⟩
theorem ZS {t:TypeId}{A:Option Addr}:∀ {w:World} (g o:Nat) (vs:List Value),Tyd w t A→Tyd (w.setCells g o vs) t A
 |_,_,_,[],h=>h
 |_,g,o,v :: r,h=>ZS g (o+1) r (h.set _ _)
def Yg (t:TypeId)(w:World)(n:Nat)(cs:List Value)(e:Ending)(w':World):Prop:=∃ A c,e= .returned (.slice A n c)∧Below w.heap.size w w'∧Rd w' A cs∧n≤c∧(∀ a,A=some a→w.heap.size≤a.block)∧Tyd w' t A
theorem XN.sl {w w':World}{t:TypeId}{size n:Nat}{cs:List Value}{e:Ending}(h:XN w t size n cs e w'):Yg t w n cs e w':=by
 obtain⟨v,h1,h2,h3,-⟩:=h
 obtain⟨A,c,rfl,h4,h5⟩:=QC h3
 refine⟨A,c,h1,h2,h4,h5,fun a e=>?_,XO h3⟩
 subst e
 exact (h3.lt a.block rfl).1
theorem Yh [Inhabited LoT](A:Option Addr)(c:Nat)(l:List UInt8)(w:World)(h:Rd w A (l.map b8))(hl:l.length<1099511627776):
 Calls Tryz.prog 95 #[.slice A l.length c] w fun e w'=>Yg 5 w l.length (l.map b8) e w':=
 (KL A l.length c (l.map b8) w (by simp) h (Qi _) (by omega)).mono fun _ _ h=>h.sl
theorem Y4 [Inhabited LoT](A1 A2:Option Addr)(c1 c2:Nat)(k v:List UInt8)(w:World)(h1:Rd w A1 (k.map b8))(h2:Rd w A2 (v.map b8))(hk:k.length<1048576)(hv:v.length<1048576)(hlo:Lo≤w.heap.size):
 Calls Tryz.prog 117 #[.slice A1 k.length c1,.slice A2 v.length c2] w fun e w'=>∃ x,e= .returned (.agg x.toArray)∧Below w.heap.size w w'∧QO w' x ⟨k,v⟩:=by
 have HA:=hid (Qa h1 h2)
 have HLO:=hid hlo
 clear h1 h2 hlo
 go_enter Tryz.func117,Tryz.ntmps117
 go_upto_region 1 with fail
 refine Qe (fun w'=>Blk w' w.heap.size 166 [.slice none 0 0,.slice none 0 0]∧Below w.heap.size w w') ⟨Blk.new w _ _,Qb _ _⟩ ?_
 rintro w1 ⟨hb1,hbl1⟩
 have HB:=hid (Qa hb1 hbl1)
 clear hb1 hbl1
 go_wp2_with (first
  |(go_at_call 95
    refine (Yh A2 c2 v _ ((HA.out.2.grown HB.out.2).grown HV.out.1) (by omega)).mono ?_
    rintro e w3 ⟨A4,c4,rfl,hb3,ho3,hc4,hn4,hy4⟩
    have hbw:Below w1.heap.size w1 w3:=gro HV.out.1 hb3
    have ht:=(HB.out.1.grown hbw).there 0 2 (Nat.le_refl _)
    have HY:=hid (Qa hb3 (Qa ho3 (Qa hc4 (Qa hbw (Qa hn4 hy4)))));clear hb3 ho3 hc4 hbw hn4 hy4)
  |(go_at_call 95
    refine (Yh A1 c1 k w1 (HA.out.1.grown HB.out.2) (by omega)).mono ?_
    rintro e w2 ⟨A3,c3,rfl,hb2,ho2,hc3,hn3,hy3⟩
    have HV:=hid (Qa hb2 (Qa ho2 (Qa hc3 (Qa hn3 hy3))));clear hb2 ho2 hc3 hn3 hy3)
  |((with_reducible refine Qv 166 (.tmp 4) (.tmp 9) w.heap.size 0 [.slice A3 k.length c3,.slice A4 v.length c4] 2 rfl ht (by kernel_rfl) ?_ ?_ ?_ ?_ ?_ ?_);(intro u hu;rcases List.mem_cons.1 hu with rfl|hu;rfl;rw[List.mem_singleton] at hu;subst hu;rfl);rfl;rfl;rfl;rfl))
 have hk1:Qu (· =w.heap.size) w3 (w3.setCells w.heap.size 0 [.slice A3 k.length c3,.slice A4 v.length c4]):=(Qu.refl _ _).setN 0 _
 have hlt:=HB.out.1.lt
 have hle:=HV.out.1.size
 refine QD w.heap.size 0 [.slice A3 k.length c3,.slice A4 v.length c4] 2 _ rfl (World.rangeAt_setCells_same _ _ _ _ ht) Tryz.underlying166 rfl (by kernel_rfl) rfl rfl rfl ⟨_,rfl,Qc _ (Nat.le_refl _) _ _ _ (HB.out.2.trans (HY.out.2.2.2.1.mono HB.out.2.size)),A3,c3,A4,c4,rfl,?_,?_,HV.out.2.2.1,HY.out.2.2.1,TyB.up (ZS _ _ _ (HV.out.2.2.2.2.grown HY.out.1)) HV.out.2.2.2.1 (Nat.le_trans HLO.out HB.out.2.size),TyB.up (ZS _ _ _ HY.out.2.2.2.2.2) HY.out.2.2.2.2.1 (Nat.le_trans HLO.out (Nat.le_trans HB.out.2.size HV.out.1.size))⟩
 ·exact (HV.out.2.1.grown HY.out.1).kept hk1 fun a e _ h=>by have:=HV.out.2.2.2.1 a e;omega
 ·exact HY.out.2.1.kept hk1 fun a e _ h=>by have:=HY.out.2.2.2.2.1 a e;omega
namespace Rsha
theorem ext32 {x y:UInt32}(h:x.toBitVec=y.toBitVec):x=y:=UInt32.toBitVec_inj.1 h
theorem choice_eq (e f g:UInt32):g ^^^ e &&& (f ^^^ g)=e &&& f ^^^ ~~~e &&& g:=by
 apply ext32
 simp only[UInt32.toBitVec_xor,UInt32.toBitVec_and,UInt32.toBitVec_not]
 ext i hi
 simp only[BitVec.getElem_xor,BitVec.getElem_and,BitVec.getElem_not]
 cases e.toBitVec[i]<;>cases f.toBitVec[i]<;>cases g.toBitVec[i]<;>rfl
theorem most_eq (a b c:UInt32):a &&& b ||| c &&& (a ||| b)=a &&& b ^^^ a &&& c ^^^ b &&& c:=by
 apply ext32
 simp only[UInt32.toBitVec_xor,UInt32.toBitVec_and,UInt32.toBitVec_or]
 ext i hi
 simp only[BitVec.getElem_xor,BitVec.getElem_and,BitVec.getElem_or]
 cases a.toBitVec[i]<;>cases b.toBitVec[i]<;>cases c.toBitVec[i]<;>rfl
theorem turn_eq (x:UInt32)(n:Nat)(h1:1≤n)(h2:n<32):x >>> UInt32.ofNat n+x <<< UInt32.ofNat (32-n)=Sha.rotr n x:=by
 unfold Sha.rotr
 apply ext32
 have e1:(UInt32.ofNat n).toBitVec % 32#32=BitVec.ofNat 32 n:=by
  apply BitVec.eq_of_toNat_eq
  simp;omega
 have e2:(UInt32.ofNat (32-n)).toBitVec % 32#32=BitVec.ofNat 32 (32-n):=by
  apply BitVec.eq_of_toNat_eq
  simp;omega
 simp only[UInt32.toBitVec_add,UInt32.toBitVec_or,UInt32.toBitVec_shiftRight,UInt32.toBitVec_shiftLeft]
 rw[BitVec.add_eq_or_of_and_eq_zero,BitVec.or_comm]
 ext i hi
 have hm1:n % 4294967296 % 32=n:=by omega
 have hm2:(32-n) % 4294967296 % 32=32-n:=by omega
 simp
 intro ha hb
 exfalso
 have hlt:n % 32+i<32:=by
  apply Classical.byContradiction
  intro hge
  rw[BitVec.getLsbD_of_ge _ _ (by omega)] at ha
  cases ha
 omega
end Rsha
theorem Qdo (x:UInt32)(n:Nat)(h1:1≤n)(h2:n<32):IntKind.u32.wrap (n32 x / 2^n+IntKind.u32.wrap (n32 x*2^(32-n)))=n32 (Sha.rotr n x):=by
 rw[JM x (32-n) (by omega),Jk x n h2,Qaf,Rsha.turn_eq x n h1 h2]
theorem Qby (x:UInt32)(n:Nat)(h1:1≤n)(h2:n<32):(n32 x / 2^n+n32 x*2^(32-n)) % 4294967296=n32 (Sha.rotr n x):=by
 rw[← Qdo x n h1 h2,IntKind.wrap_u32,IntKind.wrap_u32]
 generalize n32 x / 2^n=a
 generalize n32 x*2^(32-n)=b
 omega
theorem JT (x:UInt32)(n:Nat)(h1:1≤n)(h2:n<32)(w:World):Calls Tryz.prog 176 #[b32 x,.int .i64 n] w fun e w'=>e= .returned (b32 (Sha.rotr n x))∧∃ s:Fut w,w'=s.v:=by
 have HV:=hid (Qby x n h1 h2)
 go_enter Tryz.func176,Tryz.ntmps176
 simp only[b32]
 have i1:(0:Int)≤(n:Int):=by omega
 have i2:¬(n:Int)<0:=by omega
 have i3:¬(32-(n:Int))<0:=by omega
 have hw1:IntKind.i64.wrap (32-(n:Int))=((32-n:Nat):Int):=by rw[IntKind.wrap_i64];omega
 go_upto_region 1 with fail
 refine Qr (by kernel_rfl) (by kernel_rfl) ?_
 repeat go_big_quiet_step (fail)
 refine wpQuiet_nil ?_
 rintro _ ⟨s,rfl⟩
 go_wp2_with fail
 go_ret
 exact⟨Qah HV.out,s,rfl⟩
namespace Rsha
def place (s:Sha.St)(i p:Nat):UInt32:=stf s ((p+i) % 8)
theorem place_zero (s:Sha.St)(p:Nat)(h:p<8):place s 0 p=stf s p:=by
 unfold place;rw[Nat.add_zero,Nat.mod_eq_of_lt h]
theorem place_last (s:Sha.St)(p:Nat)(h:p<8):place s 64 p=stf s p:=by
 unfold place;rw[show (p+64) % 8=p from by omega]
theorem place_at (s:Sha.St)(i j:Nat)(hi:i<64)(hj:j<8):place s i ((64-i+j) % 8)=stf s j:=by
 unfold place;rw[show ((64-i+j) % 8+i) % 8=j from by omega]
theorem stf_step (s:Sha.St)(i:Nat)(w:UInt32)(j:Nat)(hj:j<7):stf (Sha.step s i w) (j+1)=if j=3 then s.d+Sha.T1 s i w else stf s j:=by
 match j,hj with|0,_=>rfl|1,_=>rfl|2,_=>rfl|3,_=>rfl|4,_=>rfl|5,_=>rfl|6,_=>rfl
theorem place_step (s:Sha.St)(i:Nat)(w:UInt32)(p:Nat)(hi:i<64)(hp:p<8):
 place (Sha.step s i w) (i+1) p=if p=(64-i+7) % 8 then Sha.T1 s i w+Sha.T2 s else if p=(64-i+3) % 8 then s.d+Sha.T1 s i w else place s i p:=by
 unfold place
 by_cases h7:(p+i) % 8=7
 ·rw[if_pos (by omega),show (p+(i+1)) % 8=0 from by omega];rfl
 ·rw[if_neg (by omega),show (p+(i+1)) % 8=(p+i) % 8+1 from by omega,stf_step _ _ _ _ (by omega)]
  by_cases h3:(p+i) % 8=3
  ·rw[if_pos h3,if_pos (by omega)]
  ·rw[if_neg h3,if_neg (by omega)]
theorem W_ref (m:Nat→UInt8)(i:Nat)(h:¬i<16):Sha.W m i=Sha.W m (i-16)+Sha.W m (i-7)+Sha.sg0 (Sha.W m (i-15))+Sha.sg1 (Sha.W m (i-2)):=by
 rw[Sha.W_high m i h,UInt32.add_assoc (Sha.W m (i-16)) (Sha.sg0 _),UInt32.add_comm (Sha.sg0 _) (Sha.W m (i-7)),←UInt32.add_assoc]
theorem be_nat (a b c d:Nat)(hb:b<256)(hc:c<256)(hd:d<256):a <<< 24 ||| b <<< 16 ||| c <<< 8 ||| d=a*16777216+b*65536+c*256+d:=by
 have e1:a <<< 24 ||| b <<< 16=(a*256+b) <<< 16:=by
  rw[← Nat.shiftLeft_add_eq_or_of_lt (show b <<< 16<2^24 from by rw[Nat.shiftLeft_eq];omega)]
  simp only[Nat.shiftLeft_eq];omega
 have e2:(a*256+b) <<< 16 ||| c <<< 8=((a*256+b)*256+c) <<< 8:=by
  rw[← Nat.shiftLeft_add_eq_or_of_lt (show c <<< 8<2^16 from by rw[Nat.shiftLeft_eq];omega)]
  simp only[Nat.shiftLeft_eq];omega
 rw[e1,e2,←Nat.shiftLeft_add_eq_or_of_lt (show d<2^8 from hd),Nat.shiftLeft_eq];omega
theorem be_add (a b c d:UInt8):a.toUInt32 <<< 24+b.toUInt32 <<< 16+c.toUInt32 <<< 8+d.toUInt32=a.toUInt32 <<< 24 ||| b.toUInt32 <<< 16 ||| c.toUInt32 <<< 8 ||| d.toUInt32:=by
 apply UInt32.toNat_inj.1
 have ha:=a.toNat_lt
 have hb:=b.toNat_lt
 have hc:=c.toNat_lt
 have hd:=d.toNat_lt
 have s24:(a.toUInt32 <<< 24).toNat=a.toNat <<< 24:=by simp[Nat.shiftLeft_eq];omega
 have s16:(b.toUInt32 <<< 16).toNat=b.toNat <<< 16:=by simp[Nat.shiftLeft_eq];omega
 have s8:(c.toUInt32 <<< 8).toNat=c.toNat <<< 8:=by simp[Nat.shiftLeft_eq];omega
 simp only[UInt32.toNat_add,UInt32.toNat_or,s24,s16,s8,UInt8.toNat_toUInt32]
 rw[be_nat _ _ _ _ (by omega) (by omega) (by omega)]
 simp only[Nat.shiftLeft_eq];omega
end Rsha
theorem Zu {w0:World}(s:Fut w0)(x:UInt32)(n:Nat)(h1:1≤n)(h2:n<32):Calls Tryz.prog 176 #[b32 x,.int .i64 n] s.v fun e w'=>e= .returned (b32 (Sha.rotr n x))∧∃ s':Fut w0,w'=s'.v:=
 (JT x n h1 h2 s.v).mono fun e w' ⟨he,s',hs'⟩=>⟨he,⟨s'.v,s.below.trans (s'.below.mono s.below.size)⟩,hs'⟩
theorem Qfw (g o c k:Nat)(l:List UInt8)(hl:l.length=64)(hk:k<16)(w:World)(hr:w.rangeAt g o (l.map b8)):
 Calls Tryz.prog 206 #[.slice (some ⟨g,o,none⟩) 64 c,.int .i64 (4*(k:Int))] w fun e w'=>e= .returned (b32 (Sha.be (fun j=>l.getD j 0) (4*k)))∧∃ s:Fut w,w'=s.v:=by
 have q0:=Fut.cell (hr (4*k) (b8 (l.getD (4*k) 0)) (by simp[show 4*k<l.length by omega]))
 have q1:=Fut.cell (hr (4*k+1) (b8 (l.getD (4*k+1) 0)) (by simp[show 4*k+1<l.length by omega]))
 have q2:=Fut.cell (hr (4*k+2) (b8 (l.getD (4*k+2) 0)) (by simp[show 4*k+2<l.length by omega]))
 have q3:=Fut.cell (hr (4*k+3) (b8 (l.getD (4*k+3) 0)) (by simp[show 4*k+3<l.length by omega]))
 have hv:=Rsha.be_add (l.getD (4*k) 0) (l.getD (4*k+1) 0) (l.getD (4*k+2) 0) (l.getD (4*k+3) 0)
 have HV:=hid hv
 clear hv hr
 go_enter Tryz.func206,Tryz.ntmps206
 go_upto_region 1 with fail
 refine Qr (by kernel_rfl) (by kernel_rfl) ?_
 repeat go_big_quiet_step (fail)
 refine wpQuiet_nil ?_
 rintro _ ⟨s,rfl⟩
 go_wp2_with fail
 go_ret
 exact⟨by rw[show Sha.be (fun j=>l.getD j 0) (4*k)=_ from HV.out.symm];rfl,s,rfl⟩
theorem Wv (w:World):Calls Tryz.prog 122 #[] w fun e w'=>e= .returned (.agg (stl Sha.H0).toArray)∧Below w.heap.size w w':=by
 go_enter Tryz.func122,Tryz.ntmps122
 go_wp2_with fail
 exact Jl rfl w.heap.size 0 rfl (stl Sha.H0) (Blk.new w _ (stl Sha.H0)).whole _ Tryz.underlying199 rfl (by kernel_rfl) rfl ⟨rfl,(Below.refl _ _).alloc (Nat.le_refl _) _⟩
theorem Uj (w:World):(Instr.build 245 #[(0,.int .u32 1116352408),(1,.int .u32 1899447441),(2,.int .u32 3049323471),(3,.int .u32 3921009573),(4,.int .u32 961987163),(5,.int .u32 1508970993),(6,.int .u32 2453635748),(7,.int .u32 2870763221),(8,.int .u32 3624381080),(9,.int .u32 310598401),(10,.int .u32 607225278),(11,.int .u32 1426881987),(12,.int .u32 1925078388),(13,.int .u32 2162078206),(14,.int .u32 2614888103),(15,.int .u32 3248222580),(16,.int .u32 3835390401),(17,.int .u32 4022224774),(18,.int .u32 264347078),(19,.int .u32 604807628),(20,.int .u32 770255983),(21,.int .u32 1249150122),(22,.int .u32 1555081692),(23,.int .u32 1996064986),(24,.int .u32 2554220882),(25,.int .u32 2821834349),(26,.int .u32 2952996808),(27,.int .u32 3210313671),(28,.int .u32 3336571891),(29,.int .u32 3584528711),(30,.int .u32 113926993),(31,.int .u32 338241895),(32,.int .u32 666307205),(33,.int .u32 773529912),(34,.int .u32 1294757372),(35,.int .u32 1396182291),(36,.int .u32 1695183700),(37,.int .u32 1986661051),(38,.int .u32 2177026350),(39,.int .u32 2456956037),(40,.int .u32 2730485921),(41,.int .u32 2820302411),(42,.int .u32 3259730800),(43,.int .u32 3345764771),(44,.int .u32 3516065817),(45,.int .u32 3600352804),(46,.int .u32 4094571909),(47,.int .u32 275423344),(48,.int .u32 430227734),(49,.int .u32 506948616),(50,.int .u32 659060556),(51,.int .u32 883997877),(52,.int .u32 958139571),(53,.int .u32 1322822218),(54,.int .u32 1537002063),(55,.int .u32 1747873779),(56,.int .u32 1955562222),(57,.int .u32 2024104815),(58,.int .u32 2227730452),(59,.int .u32 2361852424),(60,.int .u32 2428436474),(61,.int .u32 2756734187),(62,.int .u32 3204031479),(63,.int .u32 3329325298)]).run Tryz.prog w= .ok (.agg (Sha.kList.map b32).toArray) w:=by kernel_rfl
attribute [-go_sem] Instr.build Instr.buildSlice in
theorem Ww (w:World):Calls Tryz.prog 175 #[] w fun e w'=>e= .returned (.agg (Sha.kList.map b32).toArray)∧Below w.heap.size w w':=by
 have h1:∀ v∈Sha.kList.map b32,v.oneCell'=true:=by
  intro v hv
  simp only[List.mem_map] at hv
  obtain⟨i,-,rfl⟩:=hv
  rfl
 have hb:=Uj
 obtain⟨L,hL⟩:∃ L,L=Sha.kList.map b32:=⟨_,rfl⟩
 have hll:L.length=64:=by rw[hL];rfl
 rw[← hL] at h1 hb ⊢
 clear hL
 go_enter Tryz.func175,Tryz.ntmps175
 go_wp2_with (
  ((with_reducible refine Qw 245 (.tmp 0) (.tmp 1) _ _ L 64 hll ?_ (by kernel_rfl) h1 ?_ ?_ ?_ ?_ ?_);rfl;rfl;rfl;rfl;rfl))
 exact QD w.heap.size 0 _ 64 _ hll (Blk.new w 245 L).whole Tryz.underlying245 rfl (by kernel_rfl) rfl rfl rfl ⟨rfl,(Below.refl _ _).alloc (Nat.le_refl _) _⟩
theorem Qbz {w0:World}(s:Fut w0)(x:UInt32):Calls Tryz.prog 176 #[b32 x,.int .i64 6] s.v fun e w'=>e= .returned (b32 (Sha.rotr 6 x))∧∃ s':Fut w0,w'=s'.v:=Zu s x 6 (by decide) (by decide)
theorem Qb0 {w0:World}(s:Fut w0)(x:UInt32):Calls Tryz.prog 176 #[b32 x,.int .i64 7] s.v fun e w'=>e= .returned (b32 (Sha.rotr 7 x))∧∃ s':Fut w0,w'=s'.v:=Zu s x 7 (by decide) (by decide)
theorem Wx {w0:World}(s:Fut w0)(x:UInt32):Calls Tryz.prog 176 #[b32 x,.int .i64 11] s.v fun e w'=>e= .returned (b32 (Sha.rotr 11 x))∧∃ s':Fut w0,w'=s'.v:=Zu s x 11 (by decide) (by decide)
theorem Wy {w0:World}(s:Fut w0)(x:UInt32):Calls Tryz.prog 176 #[b32 x,.int .i64 17] s.v fun e w'=>e= .returned (b32 (Sha.rotr 17 x))∧∃ s':Fut w0,w'=s'.v:=Zu s x 17 (by decide) (by decide)
theorem Wz {w0:World}(s:Fut w0)(x:UInt32):Calls Tryz.prog 176 #[b32 x,.int .i64 18] s.v fun e w'=>e= .returned (b32 (Sha.rotr 18 x))∧∃ s':Fut w0,w'=s'.v:=Zu s x 18 (by decide) (by decide)
theorem WA {w0:World}(s:Fut w0)(x:UInt32):Calls Tryz.prog 176 #[b32 x,.int .i64 19] s.v fun e w'=>e= .returned (b32 (Sha.rotr 19 x))∧∃ s':Fut w0,w'=s'.v:=Zu s x 19 (by decide) (by decide)
theorem WB {w0:World}(s:Fut w0)(x:UInt32):Calls Tryz.prog 176 #[b32 x,.int .i64 25] s.v fun e w'=>e= .returned (b32 (Sha.rotr 25 x))∧∃ s':Fut w0,w'=s'.v:=Zu s x 25 (by decide) (by decide)
def Rsha.ws (m:Nat→UInt8):List Value:=(List.range 64).map fun i=>b32 (Sha.W m i)
theorem Rsha.ws_len (m:Nat→UInt8):(Rsha.ws m).length=64:=by simp[Rsha.ws]
theorem Rsha.ws_get (m:Nat→UInt8)(i:Nat)(h:i<64):(Rsha.ws m)[i]?=some (b32 (Sha.W m i)):=by simp[Rsha.ws,h]
theorem Rsha.ws_one (m:Nat→UInt8):∀ v∈Rsha.ws m,v.oneCell'=true:=by
 intro v hv
 simp only[Rsha.ws,List.mem_map] at hv
 obtain⟨i,-,rfl⟩:=hv
 rfl
theorem Xe {wr:World}{b:Nat}{t:TypeId}{n:Nat}{f:Nat→Value}(h:wr.rowIs b t n f)(s:Fut wr):s.v.rowIs b t n f:=h.of_block (s.below.block _ h.lt)
theorem Qfx (w:World)(A B:Obj):((w.alloc A).alloc B).heap[w.heap.size]?=some A∧((w.alloc A).alloc B).heap[w.heap.size+1]?=some B∧Below w.heap.size w ((w.alloc A).alloc B):=by
 have sz:∀ (w:World) (o:Obj),(w.alloc o).heap.size=w.heap.size+1:=fun w o=>by simp
 refine⟨?_,?_,?_⟩
 ·rw[Below.heap_alloc _ _ _ (by simp)];exact heap_alloc_new w A
 ·rw[← sz w A];exact heap_alloc_new _ _
 ·exact ((Below.refl _ _).alloc (Nat.le_refl _) _).alloc (by simp) _
structure Sp (m:Nat→UInt8) (w:World) (k:Nat) (wr:World):Prop where
 r0:wr.rowIs w.heap.size 245 64 (fun _=>b32 0)
 r1:wr.rowIs (w.heap.size+1) 245 64 (fun i=>b32 (if i<k then Sha.W m i else 0))
 bl:Below w.heap.size w wr
theorem Sp.start (m:Nat→UInt8)(w:World):Sp m w 0 ((w.alloc (.cells (Array.replicate 64 (.int .u32 0)) 245)).alloc (.cells (Array.replicate 64 (.int .u32 0)) 245)):=by
 obtain⟨F0,F1,F2⟩:=Qfx w (.cells (Array.replicate 64 (.int .u32 0)) 245) (.cells (Array.replicate 64 (.int .u32 0)) 245)
 exact⟨Kd _ _ _ _ 64 (fun i=>b32 0) F0 rfl (by intro i hi;simp[Array.getElem?_replicate,hi,JL]),
  Kd _ _ _ _ 64 (fun i=>b32 (if i<0 then Sha.W m i else 0)) F1 rfl (by intro i hi;simp[Array.getElem?_replicate,hi,JL]),F2⟩
theorem Sp.fut {m:Nat→UInt8}{w wr:World}{k:Nat}(h:Sp m w k wr)(s:Fut wr):Sp m w k s.v:=⟨Xe h.r0 s,Xe h.r1 s,h.bl.trans (s.below.mono h.bl.size)⟩
theorem Sp.next {m:Nat→UInt8}{w wr:World}{k:Nat}(hC:Sp m w k wr){v:Int}(hv:v=n32 (Sha.W m k)):
 Sp m w (k+1) (wr.setCell ⟨w.heap.size+1,k,none⟩ (.int .u32 v)):=by
 subst hv
 refine⟨hC.r0.setOther (by simp<;>omega) _,?_,hC.bl.setCell (by simp<;>omega) _⟩
 refine (hC.r1.set k (b32 (Sha.W m k))).congr fun i hi=>?_
 by_cases h:i=k
 ·subst h;simp
 ·rw[if_neg h]
  by_cases h':i<k
  ·rw[if_pos h',if_pos (by omega)]
  ·rw[if_neg h',if_neg (by omega)]
theorem WC (g o c:Nat)(l:List UInt8)(hl:l.length=64)(w:World)(hr:w.rangeAt g o (l.map b8)):
 Calls Tryz.prog 174 #[.slice (some ⟨g,o,none⟩) 64 c] w fun e w'=>e= .returned (.agg (Rsha.ws (fun j=>l.getD j 0)).toArray)∧Below w.heap.size w w':=by
 obtain⟨m,hm⟩:∃ m:Nat→UInt8,m=fun j=>l.getD j 0:=⟨_,rfl⟩
 have hgl:=Qo hr (by simp[hl])
 have hbig:∀ (k:Nat),k<16→∀ w',Below w.heap.size w w'→Calls Tryz.prog 206 #[.slice (some ⟨g,o,none⟩) 64 c,.int .i64 (4*(k:Int))] w' fun e w''=>e= .returned (b32 (Sha.be m (4*k)))∧∃ s:Fut w',w''=s.v:=fun k hk w' hb=>by
  rw[hm];exact Qfw g o c k l hl hk w' (Qh hr hb hgl)
 have HG:=hid hbig
 clear hbig
 have HR:=hid hr
 clear hr
 rw[← hm]
 clear hm
 go_enter Tryz.func174,Tryz.ntmps174
 go_wp2_with fail
 go_loopg [4] 64 (fun g i wr=>∃ k:Nat,k+g=64∧i= .int .i64 k∧Sp m w k wr)
 case atStart=>exact⟨0,by omega,rfl,Sp.start m w⟩
 case round=>
  obtain⟨k,hk,rfl,hC⟩:=hrel
  have HC:=hid hC
  clear hC
  by_cases hlt:k<64
  ·by_cases h16:k<16
   ·have c4:∀ s:Fut wr,s.v.cell? ⟨w.heap.size+1,k,none⟩=some (b32 (if k<k then Sha.W m k else 0)):=fun s=>(HC.out.fut s).r1.cell hlt
    have c5:∀ s:Fut wr,s.v.frozen? ⟨w.heap.size+1,k,none⟩=false:=fun s=>(HC.out.fut s).r1.frozen _
    go_wp2_with (go_at_call 206
                 refine (HG.out k h16 wr HC.out.bl).mono ?_
                 rintro e w' ⟨rfl,s,rfl⟩)
    go_roundg (gk-1)
    case measure=>omega
    case rel=>exact⟨k+1,by omega,by go_num,(HC.out.fut s).next (by rw[Sha.W_low m k h16])⟩
   ·have e15:=HC.out.r1.cell (i:=k-15) (by omega)
    have e2:=HC.out.r1.cell (i:=k-2) (by omega)
    have e16:=HC.out.r1.cell (i:=k-16) (by omega)
    have e7:=HC.out.r1.cell (i:=k-7) (by omega)
    rw[if_pos (by omega)] at e15 e2 e16 e7
    have q15:=Fut.cell e15
    have q2:=Fut.cell e2
    have E16:=hid e16
    have E7:=hid e7
    clear e15 e2 e16 e7
    go_upto_region 7 with fail
    refine Qr (by kernel_rfl) (by kernel_rfl) ?_
    repeat go_big_quiet_step (fail)
    refine wpQuiet_nil ?_
    rintro _ ⟨s,rfl⟩
    have HC2:=hid (HC.out.fut s)
    have q16:=Fut.cell (Fut.cell E16.out s)
    have q7:=Fut.cell (Fut.cell E7.out s)
    clear q15 q2
    clear HC E16 E7
    go_upto_region 8 with fail
    refine Qq 28 (by kernel_rfl) (by kernel_rfl) ?_
    dsimp only[List.take_succ_cons,List.take_zero,List.drop_succ_cons,List.drop_zero]
    repeat go_big_quiet_step (first|with_reducible exact Qb0 _ _|with_reducible exact Wz _ _|with_reducible exact Wy _ _|with_reducible exact WA _ _)
    refine wpQuiet_nil ?_
    rintro _ ⟨s2,rfl⟩
    have HC3:=hid (HC2.out.fut s2)
    clear HC2 q16 q7
    have c4:s2.v.cell? ⟨w.heap.size+1,k,none⟩=some (b32 (if k<k then Sha.W m k else 0)):=HC3.out.r1.cell hlt
    have c5:s2.v.frozen? ⟨w.heap.size+1,k,none⟩=false:=HC3.out.r1.frozen _
    go_wp2_with fail
    go_roundg (gk-1)
    case measure=>omega
    case rel=>exact⟨k+1,by omega,by go_num,HC3.out.next (by rw[Rsha.W_ref m k h16];rfl)⟩
  ·obtain rfl:k=64:=by omega
   have hlw:wr.rangeAt (w.heap.size+1) 0 (Rsha.ws m):=World.rangeAt_of_row HC.out.r1 0 _ (by intro j hj;rw[Rsha.ws_len] at hj;rw[Nat.zero_add,if_pos hj];exact Rsha.ws_get m j hj) (by rw[Rsha.ws_len];exact Nat.le_refl _)
   have ht:wr.there w.heap.size 0 64:=World.there_of_row HC.out.r0 0 64 (by omega)
   have HO:=hid (Rsha.ws_len m)
   go_wp2_with (first
    |((with_reducible refine Qf 245 (.tmp 3) (w.heap.size+1) 0 _ 64 _ HO.out hlw Tryz.underlying245 rfl (by kernel_rfl) ?_ ?_ ?_ ?_);rfl;rfl;rfl)
    |((with_reducible refine Qv 245 (.tmp 2) (.tmp 56) w.heap.size 0 _ 64 HO.out ht (by kernel_rfl) (Rsha.ws_one m) ?_ ?_ ?_ ?_ ?_);rfl;rfl;rfl;rfl))
   exact QD w.heap.size 0 _ 64 _ HO.out (World.rangeAt_setCells_same _ _ _ _ (by rw[HO.out];exact ht)) Tryz.underlying245 rfl (by kernel_rfl) rfl rfl rfl ⟨rfl,Qc _ (Nat.le_refl _) _ _ _ HC.out.bl⟩
theorem Rsha.k_len:(Sha.kList.map b32).length=64:=rfl
theorem Rsha.k_get (i:Nat)(h:i<64):(Sha.kList.map b32)[i]?=some (b32 (Sha.K i)):=by
 have hl:i<Sha.kList.length:=h
 simp[Sha.K,hl]
theorem Rsha.k_one:∀ v∈Sha.kList.map b32,v.oneCell'=true:=by
 intro v hv
 simp only[List.mem_map] at hv
 obtain⟨i,-,rfl⟩:=hv
 rfl
theorem X2 (s:Sha.St):(stl s).length=8:=rfl
theorem Jb (s:Sha.St):∀ v∈stl s,v.oneCell'=true:=by simp[stl,Value.oneCell']
structure Rc (m:Nat→UInt8) (s:Sha.St) (w:World) (n5 n6 n7 k:Nat) (wr:World):Prop where
 r2:wr.rowIs w.heap.size 199 8 (fun i=>b32 (stf s i))
 r4:wr.rowIs (w.heap.size+1) 199 8 (fun _=>b32 0)
 r5:wr.rowIs n5 245 64 (fun i=>b32 (Sha.W m i))
 r6:wr.rowIs n6 245 64 (fun i=>b32 (Sha.K i))
 r7:wr.rowIs n7 199 8 (fun p=>b32 (Rsha.place (Sha.rnd m s k) k p))
 bl:Below w.heap.size w wr
 o5:w.heap.size+1<n5
 o6:n5<n6
 o7:n6<n7
theorem Rc.fut {m:Nat→UInt8}{s:Sha.St}{w:World}{n5 n6 n7 k:Nat}{wr:World}(h:Rc m s w n5 n6 n7 k wr)(f:Fut wr):Rc m s w n5 n6 n7 k f.v:=
 ⟨Xe h.r2 f,Xe h.r4 f,Xe h.r5 f,Xe h.r6 f,Xe h.r7 f,h.bl.trans (f.below.mono h.bl.size),h.o5,h.o6,h.o7⟩
theorem Rc.next {m:Nat→UInt8}{s:Sha.St}{w:World}{n5 n6 n7 k:Nat}{wr:World}(h:Rc m s w n5 n6 n7 k wr)(hk:k<64){p q:Nat}(hp:p=(64-k+3) % 8)(hq:q=(64-k+7) % 8){x y:Value}
 (hx:x=b32 ((Sha.rnd m s k).d+Sha.T1 (Sha.rnd m s k) k (Sha.W m k))) (hy:y=b32 (Sha.T1 (Sha.rnd m s k) k (Sha.W m k)+Sha.T2 (Sha.rnd m s k))) {w1:World} (f1:∃ f:Fut (wr.setCell ⟨n7,p,none⟩ x),w1=f.v):
 Rc m s w n5 n6 n7 (k+1) (w1.setCell ⟨n7,q,none⟩ y):=by
 obtain⟨f,rfl⟩:=f1
 have o5:=h.o5
 have o6:=h.o6
 have o7:=h.o7
 have hb:Below w.heap.size w (wr.setCell ⟨n7,p,none⟩ x):=h.bl.setCell (by simp<;>omega) _
 refine⟨(Xe (h.r2.setOther (by simp<;>omega) _) f).setOther (by simp<;>omega) _,(Xe (h.r4.setOther (by simp<;>omega) _) f).setOther (by simp<;>omega) _,(Xe (h.r5.setOther (by simp<;>omega) _) f).setOther (by simp<;>omega) _,(Xe (h.r6.setOther (by simp<;>omega) _) f).setOther (by simp<;>omega) _,?_,(hb.trans (f.below.mono hb.size)).setCell (by simp<;>omega) _,o5,o6,o7⟩
 subst hx hy
 refine ((Xe (h.r7.set p _) f).set q _).congr fun i hi=>?_
 rw[Sha.rnd,Rsha.place_step _ _ _ _ hk hi,←hq,←hp]
 by_cases h1:i=q
 ·rw[if_pos h1,if_pos h1]
 ·rw[if_neg h1,if_neg h1]
  by_cases h2:i=p
  ·rw[if_pos h2,if_pos h2]
  ·rw[if_neg h2,if_neg h2]
structure Rd4 (m:Nat→UInt8) (s:Sha.St) (w:World) (n7 k:Nat) (wr:World):Prop where
 r2:wr.rowIs w.heap.size 199 8 (fun i=>if i<k then b32 (stf (Sha.compress m s) i) else b32 (stf s i))
 r4:wr.rowIs (w.heap.size+1) 199 8 (fun _=>b32 0)
 r7:wr.rowIs n7 199 8 (fun i=>b32 (Rsha.place (Sha.rnd m s 64) 64 i))
 bl:Below w.heap.size w wr
 o7:w.heap.size+1<n7
theorem Rd4.start {m:Nat→UInt8}{s:Sha.St}{w:World}{n5 n6 n7:Nat}{wr:World}(h:Rc m s w n5 n6 n7 64 wr):Rd4 m s w n7 0 wr:=⟨h.r2,h.r4,h.r7,h.bl,by have:=h.o5;have:=h.o6;have:=h.o7;omega⟩
theorem Rd4.fut {m:Nat→UInt8}{s:Sha.St}{w:World}{n7 k:Nat}{wr:World}(h:Rd4 m s w n7 k wr)(f:Fut wr):Rd4 m s w n7 k f.v:=
 ⟨Xe h.r2 f,Xe h.r4 f,Xe h.r7 f,h.bl.trans (f.below.mono h.bl.size),h.o7⟩
theorem Rd4.next {m:Nat→UInt8}{s:Sha.St}{w:World}{n7 k:Nat}{wr:World}(hC:Rd4 m s w n7 k wr){v:UInt32}(hv:stf (Sha.compress m s) k=v):
 Rd4 m s w n7 (k+1) (wr.setCell ⟨w.heap.size,k,none⟩ (b32 v)):=by
 subst hv
 have o7:=hC.o7
 refine⟨?_,hC.r4.setOther (by simp<;>omega) _,hC.r7.setOther (by simp<;>omega) _,hC.bl.setCell (by simp<;>omega) _,o7⟩
 refine (hC.r2.set k (b32 (stf (Sha.compress m s) k))).congr fun i hi=>?_
 by_cases h:i=k
 ·subst h;simp
 ·rw[if_neg h]
  by_cases h':i<k
  ·rw[if_pos h',if_pos (by omega)]
  ·rw[if_neg h',if_neg (by omega)]
theorem Qfy (x:UInt32)(w:World):Calls Tryz.prog 176 #[b32 x,.int .i64 2] w fun e w'=>e= .returned (b32 (Sha.rotr 2 x))∧∃ s:Fut w,w'=s.v:=JT x 2 (by decide) (by decide) w
theorem Qdp (x:UInt32)(w:World):Calls Tryz.prog 176 #[b32 x,.int .i64 13] w fun e w'=>e= .returned (b32 (Sha.rotr 13 x))∧∃ s:Fut w,w'=s.v:=JT x 13 (by decide) (by decide) w
theorem Qdq (x:UInt32)(w:World):Calls Tryz.prog 176 #[b32 x,.int .i64 22] w fun e w'=>e= .returned (b32 (Sha.rotr 22 x))∧∃ s:Fut w,w'=s.v:=JT x 22 (by decide) (by decide) w
theorem Y5 {a b c:World}(h:∃ s:Fut a,b=s.v)(k:∃ s:Fut b,c=s.v):∃ s:Fut a,c=s.v:=by
 obtain⟨s,rfl⟩:=h
 obtain⟨t,rfl⟩:=k
 exact⟨⟨t.v,gro s.below t.below⟩,rfl⟩
theorem Rc.reg {m:Nat→UInt8}{s:Sha.St}{w:World}{n5 n6 n7 k:Nat}{wr:World}(h:Rc m s w n5 n6 n7 k wr)(hk:k<64){q:Nat}(hq:q=64-k){st:Sha.St}(hst:st=Sha.rnd m s k)(j:Nat)(hj:j<8):wr.cell? ⟨n7,(q+j) % 8,none⟩=some (b32 (stf st j)):=by
 rw[h.r7.cell (by omega),hq,Rsha.place_at _ _ _ hk hj,hst]
theorem Rsha.t1 (st:Sha.St)(k:Nat)(x:UInt32):st.k+(Sha.rotr 6 st.e ^^^ Sha.rotr 11 st.e ^^^ Sha.rotr 25 st.e)+(st.g ^^^ st.e &&& (st.f ^^^ st.g))+Sha.K k+x=Sha.T1 st k x:=by
 rw[Rsha.choice_eq];rfl
theorem Rsha.t2 (st:Sha.St)(t:UInt32):t+(Sha.rotr 2 st.a ^^^ Sha.rotr 13 st.a ^^^ Sha.rotr 22 st.a)+(st.a &&& st.b ||| st.c &&& (st.a ||| st.b))=t+Sha.T2 st:=by
 rw[Rsha.most_eq,UInt32.add_assoc];rfl
abbrev YJ (s:Sha.St)(w:World):World:=(w.alloc (.cells (stl s).toArray 199)).alloc (.cells (Array.replicate 8 (.int .u32 0)) 199)
abbrev Uk (m:Nat→UInt8)(w1:World):World:=w1.alloc (.cells (Rsha.ws m).toArray 245)
abbrev Yi (w2:World):World:=w2.alloc (.cells (Sha.kList.map b32).toArray 245)
abbrev Qht (s:Sha.St)(w2:World):World:=(Yi w2).alloc (.cells (stl s).toArray 199)
theorem Rc.first {m:Nat→UInt8}{s:Sha.St}{w w1 w2:World}(hb1:Below (YJ s w).heap.size (YJ s w) w1)(hb2:Below (Uk m w1).heap.size (Uk m w1) w2):
 Blk (Yi w2) w.heap.size 199 (stl s)∧Blk (Yi w2) (w.heap.size+1) 199 (List.replicate 8 (.int .u32 0))∧Blk (Yi w2) w1.heap.size 245 (Rsha.ws m)∧Blk (Yi w2) w2.heap.size 245 (Sha.kList.map b32)∧Below w.heap.size w (Yi w2)∧w.heap.size+1<w1.heap.size∧w1.heap.size<w2.heap.size:=by
 have z0:(YJ s w).heap.size=w.heap.size+1+1:=by simp[YJ]
 have z1:(Uk m w1).heap.size=w1.heap.size+1:=by simp[Uk]
 have s1:=hb1.size
 have s2:=hb2.size
 have b0:Below w.heap.size w (YJ s w):=((Below.refl _ _).alloc (Nat.le_refl _) _).alloc (by simp) _
 have n1:Blk (YJ s w) (w.heap.size+1) 199 (List.replicate 8 (.int .u32 0)):=by
  have:=Blk.new (w.alloc (.cells (stl s).toArray 199)) 199 (List.replicate 8 (.int .u32 0))
  rwa [show (w.alloc (.cells (stl s).toArray 199)).heap.size=w.heap.size+1 from by simp] at this
 refine⟨(((((Blk.new w _ (stl s)).alloc _).grown hb1).alloc _).grown hb2).alloc _,(((n1.grown hb1).alloc _).grown hb2).alloc _,((Blk.new w1 _ (Rsha.ws m)).grown hb2).alloc _,Blk.new w2 _ _,?_,by omega,by omega⟩
 exact (gro (gro b0 (gro hb1 (Qb _ _))) (gro hb2 (Qb _ _)))
theorem Rc.start {m:Nat→UInt8}{s:Sha.St}{w w1 w2:World}(hb1:Below (YJ s w).heap.size (YJ s w) w1)(hb2:Below (Uk m w1).heap.size (Uk m w1) w2):
 Rc m s w w1.heap.size w2.heap.size (Yi w2).heap.size 0 (Qht s w2):=by
 obtain⟨f1,f2,f3,f4,f5,f6,f7⟩:=Rc.first hb1 hb2
 have f8:Blk (Qht s w2) (Yi w2).heap.size 199 (stl s):=Blk.new (Yi w2) 199 (stl s)
 refine⟨Xf (f1.alloc _) rfl (fun i hi=>KZ s i hi),Xf (f2.alloc _) rfl (fun i hi=>by rw[List.getElem?_replicate,if_pos hi];rfl),Xf (f3.alloc _) (Rsha.ws_len m) (fun i hi=>Rsha.ws_get m i hi),Xf (f4.alloc _) Rsha.k_len (fun i hi=>Rsha.k_get i hi),Xf f8 rfl (fun i hi=>by rw[KZ s i hi,Rsha.place_zero _ _ hi];rfl),gro f5 (Qb _ _),f6,f7,by simp[Yi]⟩
theorem JC (g o c:Nat)(l:List UInt8)(hl:l.length=64)(s:Sha.St)(w:World)(hr:w.rangeAt g o (l.map b8)):
 Calls Tryz.prog 123 #[.agg (stl s).toArray,.slice (some ⟨g,o,none⟩) 64 c] w fun e w'=>e= .returned (.agg (stl (Sha.compress (fun j=>l.getD j 0) s)).toArray)∧Below w.heap.size w w':=by
 obtain⟨m,hm⟩:∃ m:Nat→UInt8,m=fun j=>l.getD j 0:=⟨_,rfl⟩
 have hsp:∀ w',Below w.heap.size w w'→Calls Tryz.prog 174 #[.slice (some ⟨g,o,none⟩) 64 c] w' fun e w''=>e= .returned (.agg (Rsha.ws m).toArray)∧Below w'.heap.size w' w'':=fun w' hb=>by
  rw[hm];exact WC g o c l hl w' (Qm hr hb)
 have HS:=hid hsp
 clear hr hsp
 rw[← hm]
 clear hm
 go_enter Tryz.func123,Tryz.ntmps123
 have hwl:=Rsha.ws_len m
 have HK:=hid Rsha.k_one
 have HO:=hid (Qa (Rsha.ws_one m) (Jb s))
 go_upto_region 3 with (first
  |(go_at_call 174
    refine (HS.out _ (((Below.refl _ _).alloc (Nat.le_refl _) _).alloc (by simp) _)).mono ?_
    rintro e w1 ⟨rfl,hb1⟩
    have H1:=hid (show Below (YJ s w).heap.size (YJ s w) w1 from hb1)
    clear hb1)
  |((with_reducible refine Qw 245 (.tmp 5) (.tmp 21) _ _ (Rsha.ws m) 64 hwl ?_ (by kernel_rfl) HO.out.1 ?_ ?_ ?_ ?_ ?_);rfl;rfl;rfl;rfl;rfl)
  |(go_at_call 175
    refine (Ww _).mono ?_
    rintro e w2 ⟨rfl,hb2⟩
    have H2:=hid (show Below (Uk m w1).heap.size (Uk m w1) w2 from hb2)
    clear hb2)
  |((with_reducible refine Qw 245 (.tmp 6) (.tmp 22) _ _ (Sha.kList.map b32) 64 Rsha.k_len ?_ (by kernel_rfl) HK.out ?_ ?_ ?_ ?_ ?_);rfl;rfl;rfl;rfl;rfl))
 obtain⟨W,hW⟩:∃ W,W=Yi w2:=⟨_,rfl⟩
 have hp:=(Rc.first H1.out H2.out).1.whole
 have hR:=hid (show Rc m s w w1.heap.size w2.heap.size W.heap.size 0 (W.alloc (.cells (stl s).toArray 199)) from by rw[hW];exact Rc.start H1.out H2.out)
 refine Qe (fun w'=>w'=W) hW.symm ?_
 rintro w' rfl
 rw[← hW] at hp
 clear hW H1 H2
 go_wp2_with (first
  |((with_reducible refine Qf 199 (.tmp 2) w.heap.size 0 _ 8 _ (X2 s) hp Tryz.underlying199 rfl (by kernel_rfl) ?_ ?_ ?_ ?_);rfl;rfl;rfl)
  |((with_reducible refine Qw 199 (.tmp 7) (.tmp 23) _ _ (stl s) 8 (X2 s) ?_ (by kernel_rfl) HO.out.2 ?_ ?_ ?_ ?_ ?_);rfl;rfl;rfl;rfl;rfl))
 obtain⟨n5,h5⟩:∃ n5,n5=w1.heap.size:=⟨_,rfl⟩
 obtain⟨n6,h6⟩:∃ n6,n6=w2.heap.size:=⟨_,rfl⟩
 obtain⟨n7,h7⟩:∃ n7,n7=w'.heap.size:=⟨_,rfl⟩
 rw[← h5,←h6,←h7] at hR
 rw[← h5,←h6,←h7]
 clear h5 h6 h7 hp HS HK HO
 go_loopg [8] 64 (fun g i wr=>∃ k:Nat,k+g=64∧i= .int .i64 k∧Rc m s w n5 n6 n7 k wr)
 case atStart=>exact⟨0,by omega,rfl,hR.out⟩
 case round=>
  clear hR
  obtain⟨k,hk,rfl,hC⟩:=hrel
  have HC:=hid hC
  clear hC
  by_cases hlt:k<64
  ·obtain⟨st,hst⟩:∃ st,st=Sha.rnd m s k:=⟨_,rfl⟩
   obtain⟨q,hq⟩:∃ q,q=64-k:=⟨_,rfl⟩
   have hw:IntKind.i64.wrap (64-(k:Int))=(q:Int):=by rw[IntKind.wrap_i64];omega
   have hq64:q<65:=by omega
   have HQ:=hid (Qa hq hst)
   clear hq hst
   have q0:=Fut.cell (show wr.cell? ⟨n7,q % 8,none⟩=some (b32 st.a) from HC.out.reg hlt HQ.out.1 HQ.out.2 0 (by decide))
   have q1:=Fut.cell (show wr.cell? ⟨n7,(q+1) % 8,none⟩=some (b32 st.b) from HC.out.reg hlt HQ.out.1 HQ.out.2 1 (by decide))
   have q2:=Fut.cell (show wr.cell? ⟨n7,(q+2) % 8,none⟩=some (b32 st.c) from HC.out.reg hlt HQ.out.1 HQ.out.2 2 (by decide))
   go_upto_region 8 with fail
   refine Qr (by kernel_rfl) (by kernel_rfl) ?_
   repeat go_big_quiet_step (fail)
   refine wpQuiet_nil ?_
   rintro _ ⟨s1,rfl⟩
   have HC1:=hid (HC.out.fut s1)
   clear q0 q1 q2 HC
   have q4:=Fut.cell (show s1.v.cell? ⟨n7,(q+4) % 8,none⟩=some (b32 st.e) from HC1.out.reg hlt HQ.out.1 HQ.out.2 4 (by decide))
   have q5:=Fut.cell (show s1.v.cell? ⟨n7,(q+5) % 8,none⟩=some (b32 st.f) from HC1.out.reg hlt HQ.out.1 HQ.out.2 5 (by decide))
   have q6:=Fut.cell (show s1.v.cell? ⟨n7,(q+6) % 8,none⟩=some (b32 st.g) from HC1.out.reg hlt HQ.out.1 HQ.out.2 6 (by decide))
   go_upto_region 9 with fail
   refine Qr (by kernel_rfl) (by kernel_rfl) ?_
   repeat go_big_quiet_step (fail)
   refine wpQuiet_nil ?_
   rintro _ ⟨s2,rfl⟩
   have HC2:=hid (HC1.out.fut s2)
   clear q4 q5 q6 HC1
   have q7:=Fut.cell (show s2.v.cell? ⟨n7,(q+7) % 8,none⟩=some (b32 st.k) from HC2.out.reg hlt HQ.out.1 HQ.out.2 7 (by decide))
   have k1:=Fut.cell (HC2.out.r6.cell hlt)
   have k2:=Fut.cell (HC2.out.r5.cell hlt)
   go_upto_region 12 with fail
   refine Qr (by kernel_rfl) (by kernel_rfl) ?_
   repeat go_big_quiet_step (first|with_reducible exact Qbz _ _|with_reducible exact Wx _ _|with_reducible exact WB _ _)
   refine wpQuiet_nil ?_
   rintro _ ⟨s3,rfl⟩
   have HC3:=hid (HC2.out.fut s3)
   clear q7 k1 k2 HC2
   have c3:s3.v.cell? ⟨n7,(q+3) % 8,none⟩=some (b32 st.d):=HC3.out.reg hlt HQ.out.1 HQ.out.2 3 (by decide)
   have f3:=HC3.out.r7.frozen ((q+3) % 8)
   go_wp2_with (go_at_call 176;first
    |(with_reducible refine (Qdq _ _).mono ?_
      rintro e w22 ⟨rfl,f22⟩
      have H22:=hid (Y5 H2.out (Y5 H13.out f22))
      have c7:=(let ⟨f,hf⟩:=H22.out;hf▸(Xe (HC3.out.r7.set ((q+3) % 8) _) f).cell (i:=(q+7) % 8) (by omega))
      have f7:=(let ⟨f,hf⟩:=H22.out;hf▸(Xe (HC3.out.r7.set ((q+3) % 8) _) f).frozen ((q+7) % 8))
      clear f22)
    |(with_reducible refine (Qdp _ _).mono ?_
      rintro e w13 ⟨rfl,f13⟩
      have H13:=hid f13
      clear f13)
    |(with_reducible refine (Qfy _ _).mono ?_
      rintro e w2 ⟨rfl,f2⟩
      have H2:=hid f2
      clear f2))
   go_roundg (gk-1)
   case measure=>omega
   case rel=>
    refine⟨k+1,by omega,by go_num,HC3.out.next hlt (by rw[HQ.out.1]) (by rw[HQ.out.1]) ?_ ?_ H22.out⟩
    ·rw[← HQ.out.2,←Rsha.t1]
    ·rw[← HQ.out.2,←Rsha.t1,←Rsha.t2]
  ·obtain rfl:k=64:=by omega
   have HD:=hid (Rd4.start HC.out)
   clear HC
   go_wp2_with fail
   go_loopg [19] 8 (fun g i wr=>∃ k:Nat,k+g=8∧i= .int .i64 k∧Rd4 m s w n7 k wr)
   case atStart=>exact⟨0,by omega,rfl,HD.out⟩
   case round=>
    clear HD
    obtain⟨k,hk,rfl,hC⟩:=hrel
    have HC:=hid hC
    clear hC
    by_cases hlt:k<8
    ·have a1:=Fut.cell (show wr.cell? ⟨w.heap.size,k,none⟩=some (b32 (stf s k)) by rw[HC.out.r2.cell hlt,if_neg (by omega)])
     have a2:=Fut.cell (show wr.cell? ⟨n7,k,none⟩=some (b32 (stf (Sha.rnd m s 64) k)) by rw[HC.out.r7.cell hlt,Rsha.place_last _ _ hlt])
     obtain⟨z,hz⟩:∃ z,z=stf (Sha.rnd m s 64) k:=⟨_,rfl⟩
     rw[← hz] at a2
     have HZ:=hid hz
     clear hz
     go_upto_region 18 with fail
     refine Qq 7 (by kernel_rfl) (by kernel_rfl) ?_
     dsimp only[List.take_succ_cons,List.take_zero,List.drop_succ_cons,List.drop_zero]
     repeat go_big_quiet_step (fail)
     refine wpQuiet_nil ?_
     rintro _ ⟨s2,rfl⟩
     have HC3:=hid (HC.out.fut s2)
     have b1:=a1 s2
     have b2:=HC3.out.r2.frozen k
     clear a1 a2 HC
     go_wp2_with fail
     go_roundg (gk-1)
     case measure=>omega
     case rel=>exact⟨k+1,by omega,by go_num,HC3.out.next (by rw[Sha.compress,Qai,HZ.out])⟩
    ·obtain rfl:k=8:=by omega
     have hl8:wr.rangeAt w.heap.size 0 (stl (Sha.compress m s)):=World.rangeAt_of_row HC.out.r2 0 _ (by intro j hj;rw[Nat.zero_add,if_pos (show j<8 from hj)];exact KZ _ j hj) (by rw[Nat.zero_add];exact Nat.le_refl 8)
     have ht:wr.there (w.heap.size+1) 0 8:=World.there_of_row HC.out.r4 0 8 (by omega)
     obtain⟨S,hS⟩:∃ S,S=Sha.compress m s:=⟨_,rfl⟩
     rw[← hS] at hl8
     have HS:=hid (Qa hS (Jb S))
     clear hS
     go_wp2_with (first
      |((with_reducible refine Qf 199 (.tmp 2) w.heap.size 0 _ 8 _ (X2 S) hl8 Tryz.underlying199 rfl (by kernel_rfl) ?_ ?_ ?_ ?_);rfl;rfl;rfl)
      |((with_reducible refine Qv 199 (.tmp 4) (.tmp 135) (w.heap.size+1) 0 _ 8 (X2 S) ht (by kernel_rfl) HS.out.2 ?_ ?_ ?_ ?_ ?_);rfl;rfl;rfl;rfl))
     exact QD (w.heap.size+1) 0 _ 8 _ (X2 S) (World.rangeAt_setCells_same _ _ _ _ ht) Tryz.underlying199 rfl (by kernel_rfl) rfl rfl rfl ⟨by rw[HS.out.1],Qc _ (by omega) _ _ _ HC.out.bl⟩
def Top [Inhabited LoT](w:World)(n:Nat)(v:Value)(m:List Pr):Prop:=(m=[]∧v= .nilIface)∨QL (fun _=>True) w n (2*n) 0 v m
structure Xl [Inhabited LoT] (w:World) (n b:Nat) (m:List Pr):Prop where
 node:∃ top,Blk w b 159 [.int .i64 n,top]∧Top w n top m
 srt:Hm.Srt n m
 bnd:Bnd m
 lo:Lo≤b
theorem Top.grown [Inhabited LoT]{w w':World}{n:Nat}{v:Value}{m:List Pr}(h:Top w n v m)(hb:Below w.heap.size w w'):Top w' n v m:=h.imp id (QL.grown hb)
theorem Xl.grown [Inhabited LoT]{w w':World}{n b:Nat}{m:List Pr}(h:Xl w n b m)(hb:Below w.heap.size w w'):Xl w' n b m:=by
 obtain⟨⟨top,h1,h2⟩,h3,h4,h5⟩:=h
 exact⟨⟨top,h1.grown hb,h2.grown hb⟩,h3,h4,h5⟩
theorem Xl.w [Inhabited LoT]{w:World}{n b:Nat}{m:List Pr}(h:Xl w n b m):XF w b n:=by
 obtain⟨⟨top,h1,h2⟩,h3,h4⟩:=h
 unfold XF
 rw[h1.cell];rfl
theorem Qfz [Inhabited LoT](n:Nat)(h1:1≤n)(h2:n≤32)(w:World)(hlo:Lo≤w.heap.size):
 Calls Tryz.prog 66 #[.int .i64 n] w fun e w'=>∃ b,e= .returned (.tuple #[ptr b,.int .i64 0])∧Below w.heap.size w w'∧Xl w' n b []:=by
 have i1:¬(n:Int)<1:=by omega
 have i2:¬(32:Int)< (n:Int):=by omega
 go_enter Tryz.func66,Tryz.ntmps66
 go_wp2_with fail
 go_ret2
 exact⟨_,rfl,Qb _ _,⟨_,Blk.new w _ [.int .i64 n,.nilIface],.inl ⟨rfl,rfl⟩⟩,List.Pairwise.nil,⟨by decide,fun p hp=>by cases hp⟩,hlo⟩
theorem Jq [Inhabited LoT](b n:Nat)(h1:1≤n)(h2:n≤32)(key:List UInt8)(A:Option Addr)(c:Nat)(w:World)(hw:Qs w)(hb:XF w b n)(hk:Rd w A (key.map b8))(hl:key.length≤64):
 Calls Tryz.prog 93 #[ptr b,.slice A key.length c] w fun e w'=>e= .returned (.tuple #[dg (Dg.key n key),.int .i64 0])∧Below w.heap.size w w':=by
 have hd:=Dg.sum_length n (Dg.keyIn key) h2
 have HD:=hid (show ((Dg.key n key).map b8).length=32 by unfold Dg.key;simp[hd])
 have HA:=hid (Qa hw (Qa hb hk))
 have hl2:¬(64:Int)< (key.length:Int):=by omega
 clear hw hb hk hd
 go_enter Tryz.func93,Tryz.ntmps93
 go_upto_region 1 with fail
 refine Qe (Res w) (Res.new w) ?_
 rintro w1 hr
 have k0:w1.cell? ⟨b,0,none⟩=some (.int .i64 n):=HA.out.2.1.grown hr.bl
 have HR:=hid hr
 clear hr
 go_wp2_with (first
  |(go_at_call 88
    refine (Qan n h1 h2 key A c w1 (HA.out.2.2.grown HR.out.bl) (HA.out.1.below HR.out.bl) (by omega)).mono ?_
    rintro e w3 ⟨rfl,hb⟩
    have ht:=HR.out.there hb;have HB:=hid hb;clear hb)
  |((with_reducible refine Qv 40 (.tmp 4) (.tmp 19) w.heap.size 0 ((Dg.key n key).map b8) 32 HD.out ht (by kernel_rfl) (Qi _) ?_ ?_ ?_ ?_ ?_);rfl;rfl;rfl;rfl))
 exact Zl HD.out ht (HR.out.below HB.out) rfl rfl rfl rfl (fun _ h=>⟨rfl,h⟩)
theorem Ul [Inhabited LoT]{w:World}{v:Value}{d:List UInt8}(h:Uf w v d):(∃ nb,v=nbk nb∧∀ w',Below w.heap.size w w'→Calls Tryz.prog 243 #[ptr nb] w' fun e w''=>e= .returned (dg d)∧Below w'.heap.size w' w'')∨
 (∃ nb,v=nbr nb∧∀ w',Below w.heap.size w w'→Calls Tryz.prog 245 #[ptr nb] w' fun e w''=>e= .returned (dg d)∧Below w'.heap.size w' w''):=by
 obtain⟨hd,h⟩:=h
 rcases h with ⟨nb,of,s,e,hol,hblk,A9,k9,c9,rfl⟩|⟨nb,bm9,s,z9,e,hblk⟩
 ·exact .inl ⟨nb,e,fun w' hb=>Y2 nb of _ d w' hol hd (hblk.grown hb)⟩
 ·exact .inr ⟨nb,e,fun w' hb=>Y3 nb bm9 s d z9 w' hd (hblk.grown hb)⟩
theorem Y6 [Inhabited LoT](b n:Nat)(h1:1≤n)(h2:n≤32)(m:List Pr)(w:World)(hw:Qs w)(h:Xl w n b m):
 Calls Tryz.prog 107 #[ptr b] w fun e w'=>e= .returned (dg (Hm.root n m))∧Below w.heap.size w w':=by
 obtain⟨⟨top,h3,h4⟩,-,-,-⟩:=h
 rcases h4 with ⟨rfl,rfl⟩|h4
 ·have hd:=Dg.sum_length n [5] h2
  have HD:=hid (show ((Dg.noMap n).map b8).length=32 by unfold Dg.noMap;simp[hd])
  have HA:=hid (Qa hw h3)
  clear hw h3 hd
  go_enter Tryz.func107,Tryz.ntmps107
  go_upto_region 1 with fail
  refine Qe (Res w) (Res.new w) ?_
  rintro w1 hr
  have k0:w1.cell? ⟨b,0,none⟩=some (.int .i64 n):=by rw[(HA.out.2.grown hr.bl).cell];rfl
  have k1:w1.cell? ⟨b,1,none⟩=some .nilIface:=by rw[(HA.out.2.grown hr.bl).cell];rfl
  have HR:=hid hr
  clear hr
  go_upto_region 5 with (first
   |(go_at_call 157
     refine (Qbg n h1 h2 w1 (HA.out.1.below HR.out.bl)).mono ?_
     rintro e w3 ⟨rfl,hb⟩
     have HB:=hid hb;clear hb)
   |((with_reducible refine Qw 40 (.tmp 3) (.tmp 19) _ _ ((Dg.noMap n).map b8) 32 HD.out ?_ (by kernel_rfl) (Qi _) ?_ ?_ ?_ ?_ ?_);rfl;rfl;rfl;rfl;rfl))
  refine Qe (fun w'=>w'.rangeAt w3.heap.size 0 ((Dg.noMap n).map b8)∧w'.there w.heap.size 0 32∧Below w.heap.size w w') ⟨(Blk.new w3 _ _).whole,HR.out.there (gro HB.out (Qb _ _)),HR.out.below (gro HB.out (Qb _ _))⟩ ?_
  rintro w4 ⟨hr,ht,hb4⟩
  have HE:=hid hb4
  clear hb4
  go_wp2_with (first
   |((with_reducible refine Qf 40 (.tmp 3) w3.heap.size 0 _ 32 _ HD.out hr Tryz.underlying40 rfl (by kernel_rfl) ?_ ?_ ?_ ?_);rfl;rfl;rfl)
   |((with_reducible refine Qv 40 (.tmp 2) (.tmp 21) w.heap.size 0 ((Dg.noMap n).map b8) 32 HD.out ht (by kernel_rfl) (Qi _) ?_ ?_ ?_ ?_ ?_);rfl;rfl;rfl;rfl))
  exact QD w.heap.size 0 _ 32 _ HD.out (World.rangeAt_setCells_same _ _ _ _ (by rw[HD.out];exact ht)) Tryz.underlying40 rfl (by kernel_rfl) rfl rfl rfl ⟨rfl,Qc _ (Nat.le_refl _) _ _ _ HE.out⟩
 ·have hne:=h4.ne
  have hrt:Hm.root n m=Hm.node n (2*n) 0 m:=by
   unfold Hm.root
   cases m with
   |nil=>exact absurd rfl hne
   |cons=>rfl
  rw[hrt]
  have hd:=node_len n h2 (2*n) 0 m
  have hsm:=h4.sumAt h2
  generalize Hm.node n (2*n) 0 m=d at hd hsm ⊢
  have HD:=hid (show (d.map b8).length=32 by simp[hd])
  have hme:=Ul hsm
  have HA:=hid (Qa hw h3)
  clear hw h3 hsm h4 hrt hne
  rcases hme with ⟨nb,rfl,hme⟩|⟨nb,rfl,hme⟩
  ·have HM:=hid hme
   clear hme
   go_enter Tryz.func107,Tryz.ntmps107
   go_upto_region 1 with fail
   refine Qe (Res w) (Res.new w) ?_
   rintro w1 hr
   have k1:w1.cell? ⟨b,1,none⟩=some (nbk nb):=by rw[(HA.out.2.grown hr.bl).cell];rfl
   have HR:=hid hr
   clear hr
   go_wp2_with (first
    |(go_at_call 243
      refine (HM.out w1 HR.out.bl).mono ?_
      rintro e w3 ⟨rfl,hb⟩
      have ht:=HR.out.there hb;have HB:=hid hb;clear hb)
    |((with_reducible refine Qv 40 (.tmp 2) (.tmp 26) w.heap.size 0 (d.map b8) 32 HD.out ht (by kernel_rfl) (Qi _) ?_ ?_ ?_ ?_ ?_);rfl;rfl;rfl;rfl))
   exact QD w.heap.size 0 _ 32 _ HD.out (World.rangeAt_setCells_same _ _ _ _ (by rw[HD.out];exact ht)) Tryz.underlying40 rfl (by kernel_rfl) rfl rfl rfl ⟨rfl,Qc _ (Nat.le_refl _) _ _ _ (HR.out.below HB.out)⟩
  ·have HM:=hid hme
   clear hme
   go_enter Tryz.func107,Tryz.ntmps107
   go_upto_region 1 with fail
   refine Qe (Res w) (Res.new w) ?_
   rintro w1 hr
   have k1:w1.cell? ⟨b,1,none⟩=some (nbr nb):=by rw[(HA.out.2.grown hr.bl).cell];rfl
   have HR:=hid hr
   clear hr
   go_wp2_with (first
    |(go_at_call 245
      refine (HM.out w1 HR.out.bl).mono ?_
      rintro e w3 ⟨rfl,hb⟩
      have ht:=HR.out.there hb;have HB:=hid hb;clear hb)
    |((with_reducible refine Qv 40 (.tmp 2) (.tmp 26) w.heap.size 0 (d.map b8) 32 HD.out ht (by kernel_rfl) (Qi _) ?_ ?_ ?_ ?_ ?_);rfl;rfl;rfl;rfl))
   exact QD w.heap.size 0 _ 32 _ HD.out (World.rangeAt_setCells_same _ _ _ _ (by rw[HD.out];exact ht)) Tryz.underlying40 rfl (by kernel_rfl) rfl rfl rfl ⟨rfl,Qc _ (Nat.le_refl _) _ _ _ (HR.out.below HB.out)⟩
end Go.Proofs.YtpnakfeafekneaaGreatDoor
