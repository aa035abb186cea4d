/- Part 14 of this proof. -/
import Derived.WalkKit
import Derived.WalkSpells
import Derived.BigQuiet
import Derived.Test.YtpnakfeafekneaaGreatDoorG02
import Derived.Test.YtpnakfeafekneaaGreatDoorG13
set_option linter.unusedSimpArgs false
set_option linter.unusedVariables false
set_option maxHeartbeats 8000000
set_option maxRecDepth 100000
namespace Go.Proofs.YtpnakfeafekneaaGreatDoor
open Go.RowKit
namespace Nib
def pop8 (b:Nat):Nat:=b % 2+b / 2 % 2+b / 4 % 2+b / 8 % 2+b / 16 % 2+b / 32 % 2+b / 64 % 2+b / 128 % 2
def pop (m:Nat):Nat:=pop8 (m / 256)+pop8 (m % 256)
def has (m i:Nat):Bool:=m.testBit i
def add (m i:Nat):Nat:=m ||| 2^i
def del (m i:Nat):Nat:=m &&& (65535-2^i)
def rank (m i:Nat):Nat:=pop (m % 2^i)
def tab:ByteArray:=⟨((List.range 256).map fun b=>UInt8.ofNat (pop8 b)).toArray⟩
theorem pop8_le (b:Nat):pop8 b≤8:=by unfold pop8;omega
theorem tab_get (b:Nat)(hb:b<256):tab[b]?=some (UInt8.ofNat (pop8 b)):=by
 have h:tab.data[b]?=some (UInt8.ofNat (pop8 b)):=by
  show (((List.range 256).map fun b=>UInt8.ofNat (pop8 b)).toArray)[b]?=_
  simp[hb]
 obtain⟨h1,h2⟩:=Array.getElem?_eq_some_iff.1 h
 have hs:b<tab.size:=h1
 rw[getElem?_pos tab b hs]
 exact congrArg some h2
theorem add_lt (m i:Nat)(hm:m<65536)(hi:i<16):add m i<65536:=Nat.or_lt_two_pow (n:=16) hm (Nat.pow_lt_pow_right (by decide) hi)
end Nib
theorem Zo (a:Nat)(ha:a<65536):BitVec.ofInt 16 (a:Int)=BitVec.ofNat 16 a:=by
 apply BitVec.eq_of_toNat_eq
 simp
theorem Kk (a:Nat)(ha:a<65536):(BitVec.ofNat 16 a).toNat=a:=by simp;omega
theorem ZI (a:Nat)(ha:a<65536):IntKind.u16.wrap (a:Int)=(a:Int):=by
 rw[IntKind.wrap_u16];omega
theorem Vs (a b:Nat)(ha:a<65536)(hb:b<65536):bits .and .u16 (a:Int) (b:Int)=((a &&& b:Nat):Int):=by
 show IntKind.u16.wrap _=_
 have e1:=Zo a ha
 have e2:=Zo b hb
 show IntKind.u16.wrap (((BitVec.ofInt 16 (a:Int)) &&& (BitVec.ofInt 16 (b:Int))).toNat:Int)=_
 rw[e1,e2,BitVec.toNat_and,Kk a ha,Kk b hb]
 exact ZI _ (Nat.lt_of_le_of_lt Nat.and_le_left ha)
theorem Qg0 (a b:Nat)(ha:a<65536)(hb:b<65536):bits .or .u16 (a:Int) (b:Int)=((a ||| b:Nat):Int):=by
 show IntKind.u16.wrap (((BitVec.ofInt 16 (a:Int)) ||| (BitVec.ofInt 16 (b:Int))).toNat:Int)=_
 rw[Zo a ha,Zo b hb,BitVec.toNat_or,Kk a ha,Kk b hb]
 exact ZI _ (Nat.or_lt_two_pow (n:=16) ha hb)
theorem Wj (a b:Nat)(ha:a<65536)(hb:b<65536):bits .andNot .u16 (a:Int) (b:Int)=((a &&& (65535-b):Nat):Int):=by
 show IntKind.u16.wrap (((BitVec.ofInt 16 (a:Int)) &&& ~~~(BitVec.ofInt 16 (b:Int))).toNat:Int)=_
 rw[Zo a ha,Zo b hb,BitVec.toNat_and,BitVec.toNat_not,Kk a ha,Kk b hb]
 exact ZI _ (Nat.lt_of_le_of_lt Nat.and_le_left ha)
section
variable {P:Program} {C:World→Prop}
theorem ZX {o:Oper}{a:Act}{K:Act→Prop}(t:TypeId)(i:Operand)(s:ByteArray)(k:IntKind)(n:Nat)(b:UInt8)(ht:P.underlying t=some .string)(hb:s[n]?=some b)
 (hx:∃ x,o.op= .index t x i∧a.eval x= .string s) (hi:a.eval i= .int k n) (hk:K (a.put o.dst (b8 b))):o.quiet P a C K:=
 ⟨_,fun w hw=>by
   obtain⟨x,ho,hx⟩:=hx
   unfold Oper.quietAt execOp
   simp only[ho,hx,hi,Instr.index,asIntOf,Sem.run_bind,Sem.run_pure,Result.andThen_ok,run_underlying ht,Int.natCast_nonneg,if_true,Int.toNat_natCast,hb]
   exact⟨rfl,rfl⟩,hk⟩
end
theorem Qfj (a b:Nat)(ha:a≤8)(hb:b≤8):IntKind.u8.wrap (n8 (UInt8.ofNat a)+n8 (UInt8.ofNat b))=((a+b:Nat):Int):=by
 rw[IntKind.wrap_u8]
 unfold n8
 rw[UInt8.toNat_ofNat',UInt8.toNat_ofNat']
 omega
theorem V5 (m:Nat)(hm:m<65536)(w:World):
 Calls Tryz.prog 191 #[.int .u16 m] w fun e w'=>e= .returned (.int .i64 (Nib.pop m))∧Below w.heap.size w w':=by
 have h0:(0:Int)≤(m:Int)∧(m:Int)<65536:=by omega
 have ha:bits .and .u16 (m:Int) 255=((m % 256:Nat):Int):=by
  have:=Vs m 255 hm (by decide)
  rw[show (255:Nat)=2^8-1 from rfl,Nat.and_two_pow_sub_one_eq_mod] at this
  exact this
 have ht1:=Nib.tab_get (m / 256) (by omega)
 have ht2:=Nib.tab_get (m % 256) (by omega)
 have hs:=Qfj (Nib.pop8 (m / 256)) (Nib.pop8 (m % 256)) (Nib.pop8_le _) (Nib.pop8_le _)
 have hle:=Nib.pop8_le (m / 256)
 have hle2:=Nib.pop8_le (m % 256)
 go_enter Tryz.func191,Tryz.ntmps191
 go_upto_region 1 with fail
 refine Qr (by kernel_rfl) (by kernel_rfl) ?_
 repeat (first
  |(go_big_quiet_want;(with_reducible refine ZX 9 (.tmp 4) Nib.tab .u16 (m / 256) _ Tryz.underlying9 ht1 ?_ ?_ ?_);exact⟨_,rfl,by kernel_rfl⟩;rfl;simp only[Act.put,List.setIfInBounds_toArray,List.set_cons_zero,List.set_cons_succ];go_big_quiet_on)
  |(go_big_quiet_want;(with_reducible refine ZX 9 (.tmp 7) Nib.tab .u16 (m % 256) _ Tryz.underlying9 ht2 ?_ ?_ ?_);exact⟨_,rfl,by kernel_rfl⟩;rfl;simp only[Act.put,List.setIfInBounds_toArray,List.set_cons_zero,List.set_cons_succ];go_big_quiet_on)
  |go_big_quiet_step (fail))
 refine wpQuiet_nil ?_
 rintro _ ⟨s,rfl⟩
 go_wp2_with fail
 go_ret
 exact⟨by unfold Nib.pop;push_cast;rfl,s.below⟩
theorem Qfk (i:Nat)(hi:i<16):IntKind.u16.wrap ((2:Int)^i)=((2^i:Nat):Int):=by
 have h:2^i<65536:=Nat.pow_lt_pow_right (n:=16) (by decide) hi
 have:=ZI (2^i) h
 rw[← this]
 push_cast
 rfl
theorem Qhp (i:Nat)(hi:i<16):IntKind.u16.wrap (((2^i:Nat):Int)-1)=((2^i-1:Nat):Int):=by
 have h:2^i<65536:=Nat.pow_lt_pow_right (n:=16) (by decide) hi
 have h1:0<2^i:=Nat.two_pow_pos i
 have:=ZI (2^i-1) (by omega)
 rw[← this]
 congr 1
 omega
theorem Qh5 (m i:Nat):((m:Int) % 2^i)=((m % 2^i:Nat):Int):=by push_cast;rfl
theorem Qhq (m i:Nat)(hm:m<65536):(bits BinOp.and IntKind.u16 ((m:Int) / 2^i) 1 == 1)=Nib.has m i:=by
 have h1:m / 2^i<65536:=Nat.lt_of_le_of_lt (Nat.div_le_self _ _) hm
 have h2:=Vs (m / 2^i) 1 h1 (by decide)
 rw[Nat.and_one_is_mod] at h2
 have e:((m / 2^i:Nat):Int)=(m:Int) / 2^i:=by push_cast;rfl
 rw[e] at h2
 have h3:bits BinOp.and IntKind.u16 ((m:Int) / 2^i) 1=((m / 2^i % 2:Nat):Int):=h2
 rw[h3]
 unfold Nib.has
 rw[Nat.testBit_eq_decide_div_mod_eq]
 by_cases h:m / 2^i % 2=1
 ·rw[h];rfl
 ·rw[decide_eq_false h]
  have:m / 2^i % 2=0:=by omega
  rw[this];rfl
theorem Qbk (m:Nat)(hm:m<65536)(w:World):
 Calls Tryz.prog 141 #[.int .u16 m] w fun e w'=>e= .returned (.int .i64 (Nib.pop m))∧Below w.heap.size w w':=by
 go_enter Tryz.func141,Tryz.ntmps141
 go_wp2_with (go_at_call 191;refine (V5 m hm _).mono ?_;rintro e w1 ⟨rfl,hb⟩;have HB:=hid hb;clear hb)
 go_ret
 exact⟨rfl,HB.out⟩
theorem Wl (i:Nat)(hi:i<16)(w:World):
 Calls Tryz.prog 142 #[.int .i64 i] w fun e w'=>e= .returned (.bool true)∧w=w':=by
 have h0:(0:Int)≤(i:Int)∧(i:Int)≤15:=by omega
 go_enter Tryz.func142,Tryz.ntmps142
 go_wp2_with fail
 go_ret
 exact⟨by simp[h0],rfl⟩
theorem XD (m i:Nat)(hm:m<65536)(hi:i<16)(w:World):
 Calls Tryz.prog 91 #[.int .u16 m,.int .i64 i] w fun e w'=>e= .returned (.bool (Nib.has m i))∧w=w':=by
 have h0:(0:Int)≤(i:Int)∧(i:Int)≤15:=by omega
 go_enter Tryz.func91,Tryz.ntmps91
 go_wp2_with (go_at_call 142;refine (Wl i hi _).mono ?_;rintro e w1 ⟨rfl,rfl⟩)
 go_ret
 exact⟨by rw[Qhq m i hm];rfl,rfl⟩
theorem XP (m i:Nat)(hm:m<65536)(hi:i<16)(w:World):
 Calls Tryz.prog 90 #[.int .u16 m,.int .i64 i] w fun e w'=>e= .returned (.int .i64 (Nib.rank m i))∧Below w.heap.size w w':=by
 have h0:(0:Int)≤(i:Int)∧(i:Int)≤15:=by omega
 have hq:2^i-1<65536:=by have:2^i<65536:=Nat.pow_lt_pow_right (n:=16) (by decide) hi;omega
 have e:bits BinOp.and IntKind.u16 (m:Int) (IntKind.u16.wrap (IntKind.u16.wrap (2^i)-1))=((m &&& (2^i-1):Nat):Int):=by
  rw[Qfk i hi,Qhp i hi,Vs _ _ hm hq]
 have hl:m % 2^i<65536:=Nat.lt_of_le_of_lt (Nat.mod_le _ _) hm
 rw[Nat.and_two_pow_sub_one_eq_mod] at e
 go_enter Tryz.func90,Tryz.ntmps90
 go_wp2_with (go_at_call 141;rw[Qh5 m i];refine (Qbk (m % 2^i) hl _).mono ?_;rintro e w1 ⟨rfl,hb⟩;have HB:=hid hb;clear hb)
 go_ret
 exact⟨rfl,HB.out⟩
theorem ZJ (m i:Nat)(hm:m<65536)(hi:i<16)(w:World):
 Calls Tryz.prog 167 #[.int .u16 m,.int .i64 i] w fun e w'=>e= .returned (.int .u16 (Nib.add m i))∧w=w':=by
 have h0:(0:Int)≤(i:Int)∧(i:Int)≤15:=by omega
 have e:bits BinOp.or IntKind.u16 (m:Int) (IntKind.u16.wrap (2^i))=((m ||| 2^i:Nat):Int):=by
  rw[Qfk i hi,Qg0 _ _ hm (Nat.pow_lt_pow_right (n:=16) (by decide) hi)]
 go_enter Tryz.func167,Tryz.ntmps167
 go_wp2_with (go_at_call 142;refine (Wl i hi _).mono ?_;rintro e w1 ⟨rfl,rfl⟩)
 go_ret
 exact⟨by first|rfl|(rw [e];rfl),rfl⟩
theorem Z7 (m i:Nat)(hm:m<65536)(hi:i<16)(w:World):
 Calls Tryz.prog 170 #[.int .u16 m,.int .i64 i] w fun e w'=>e= .returned (.int .u16 (Nib.del m i))∧w=w':=by
 have h0:(0:Int)≤(i:Int)∧(i:Int)≤15:=by omega
 have e:bits BinOp.andNot IntKind.u16 (m:Int) (IntKind.u16.wrap (2^i))=((m &&& (65535-2^i):Nat):Int):=by
  rw[Qfk i hi,Wj _ _ hm (Nat.pow_lt_pow_right (n:=16) (by decide) hi)]
 go_enter Tryz.func170,Tryz.ntmps170
 go_wp2_with (go_at_call 142;refine (Wl i hi _).mono ?_;rintro e w1 ⟨rfl,rfl⟩)
 go_ret
 exact⟨by first|rfl|(rw [e];rfl),rfl⟩
theorem Qg1 (a:Nat)(ha:a<256):bits BinOp.and IntKind.u8 (a:Int) 15=((a % 16:Nat):Int):=by
 have h:∀ a:Nat,a<256→bits BinOp.and IntKind.u8 (a:Int) 15=((a % 16:Nat):Int):=by decide +kernel
 exact h a ha
theorem Qfl (x:UInt8)(k:Nat):wrap64 (bits BinOp.and IntKind.u8 (n8 x / 2^k) 15)=((x.toNat / 2^k % 16:Nat):Int):=by
 have h1:x.toNat / 2^k<256:=Nat.lt_of_le_of_lt (Nat.div_le_self _ _) x.toNat_lt
 have e:n8 x / 2^k=((x.toNat / 2^k:Nat):Int):=by unfold n8;push_cast;rfl
 rw[e,Qg1 _ h1]
 have:x.toNat / 2^k % 16<16:=Nat.mod_lt _ (by decide)
 unfold wrap64
 omega
def Dg.digit (d:List UInt8)(i:Nat):Nat:=(d.getD (i / 2) 0).toNat / 2^(4-i % 2*4) % 16
theorem Dg.digit_lt (d:List UInt8)(i:Nat):Dg.digit d i<16:=Nat.mod_lt _ (by decide)
theorem Qbl (d:List UInt8)(i:Nat)(hd:d.length=32)(hi:i<64)(w:World):
 Calls Tryz.prog 140 #[dg d,.int .i64 i] w fun e w'=>e= .returned (.int .i64 (Dg.digit d i))∧Below w.heap.size w w':=by
 have hb:Blk (w.alloc (.cells (d.map b8).toArray 40)) w.heap.size 40 (d.map b8):=Blk.new w _ _
 have hbl:Below w.heap.size w (w.alloc (.cells (d.map b8).toArray 40)):=(Below.refl _ _).alloc (Nat.le_refl _) _
 have h0:(0:Int)≤(i:Int)∧(i:Int)<64:=by omega
 have c0:(w.alloc (.cells (d.map b8).toArray 40)).cell? ⟨w.heap.size,i / 2,none⟩=some (b8 (d.getD (i / 2) 0)):=by
  rw[hb.cell,List.getElem?_map,List.getElem?_eq_getElem (show i / 2<d.length by omega),List.getD_eq_getElem?_getD,List.getElem?_eq_getElem (show i / 2<d.length by omega)];rfl
 go_enter Tryz.func140,Tryz.ntmps140
 go_upto_region 1 with fail
 refine Qe (fun w'=>w'.cell? ⟨w.heap.size,i / 2,none⟩=some (b8 (d.getD (i / 2) 0))∧Below w.heap.size w w') ⟨c0,hbl⟩ ?_
 rintro w1 ⟨c1,hb1⟩
 have HB:=hid hb1
 clear c0 hb hbl hb1
 go_wp2_with fail
 go_ret
 refine⟨?_,HB.out⟩
 have:=Qfl (d.getD (i / 2) 0) (4-i % 2*4)
 rw[List.getD_eq_getElem?_getD] at this
 unfold Dg.digit
 rw[List.getD_eq_getElem?_getD,←this]
 rfl
theorem gro {w w1 w2:World}(h:Below w.heap.size w w1)(k:Below w1.heap.size w1 w2):Below w.heap.size w w2:=h.trans (k.mono h.size)
section
variable {P:Program}
theorem Kl {T e:TypeId}{n:Nat}(hT:P.underlying T=some (.array n e))(hs:(P.info? e).map (·.size)=some 1)(b o k:Nat)(hk:k≤n):
 ∃ X,(∀ w,(Instr.sliceAt T (.pointer (some ⟨b,o,none⟩)) (some (.int .i64 k)) none none).run P w= .ok (.slice X (n-k) (n-k)) w)∧(k<n→X=some ⟨b,o+k,none⟩):=by
 rcases Nat.lt_or_ge k n with h|h
 ·exact⟨_,fun w=>Z3 hT hs b o k h w,fun _=>rfl⟩
 ·obtain rfl:k=n:=by omega
  have h1:(0:Int)≤(k:Int)∧(k:Int)≤(k:Int):=by omega
  exact⟨some ⟨b,o,none⟩,fun w=>by simp[Instr.sliceAt,Instr.sureAddr,run_underlying hT,Instr.sliceBounds,Instr.sliceBound,asIntOf,QN hs],fun h'=>absurd h' (Nat.lt_irrefl _)⟩
end
theorem Km (n:Nat)(d:List UInt8)(hd:d.length=32)(h2:n≤32)(h:Dg.form n d=true)(k:Nat)(hk:n≤k)(hk2:k<32):d[k]?=some 0:=by
 unfold Dg.form Dg.cut at h
 have e:d.take n++List.replicate (32-n) 0=d:=by simpa using h
 rw[← e,List.getElem?_append_right (by simp;omega),List.getElem?_replicate,if_pos (by simp;omega)]
theorem Qbm (n:Nat)(h1:1≤n)(h2:n≤32)(A:Option Addr)(c:Nat)(ds:List (List UInt8))(w:World)(hf:XZ n ds)(hA:Rd w A (dgs ds).flatten)(hvl:ds.length<1099511627776):
 Calls Tryz.prog 139 #[.int .i64 n,.slice A ds.length c] w fun e w'=>e= .returned (.int .i64 0)∧Below w.heap.size w w':=by
 have HA:=hid (Qa hf hA)
 clear hf hA
 have hn1:¬((n:Int)<1):=by omega
 have hn2:¬((32:Int)<n):=by omega
 go_enter Tryz.func139,Tryz.ntmps139
 go_wp2_with fail
 go_loopg [17] ds.length (fun g i wr=>∃ j:Nat,j+g=ds.length∧i= .int .i64 j∧Below w.heap.size w wr)
 case atStart=>exact⟨0,by omega,rfl,Below.refl _ _⟩
 case round=>
  obtain⟨j,hj,rfl,hi⟩:=hrel
  rename World=>wo
  have HI:=hid hi
  clear hi
  by_cases hlt:j<ds.length
  ·have hl32:∀ x∈dgs ds,x.length=32:=Q3 fun d hd=>(HA.out.1 d hd).1
   have hjl:j< (dgs ds).length:=by simpa [dgs] using hlt
   obtain⟨g,o,rfl,hr⟩:=HA.out.2 (by
    intro e
    have:=Qk 32 _ hl32
    rw[e] at this
    simp at this;omega)
   have hp:=Qt hr hl32 j hjl
   have hlj:(dgs ds)[j].length=32:=hl32 _ (List.getElem_mem hjl)
   have hej:(dgs ds)[j]=ds[j].map b8:=by simp[dgs]
   rw[hej] at hp hlj
   have hlb:=Qo hp (by omega)
   have hp2:wo.rangeAt g (o+j*32) (ds[j].map b8):=Qh hp HI.out hlb
   have hb:Blk (wo.alloc (.cells (ds[j].map b8).toArray 40)) wo.heap.size 40 (ds[j].map b8):=Blk.new _ _ _
   have hd:=HA.out.1 ds[j] (List.getElem_mem hlt)
   have HD:=hid (Qa hd hb)
   clear hr hp hej hl32 hd hb
   have HL:=hid hlj
   clear hlj
   obtain⟨X,hX,hXe⟩:=Kl (P:=Tryz.prog) Tryz.underlying40 (by kernel_rfl) wo.heap.size 0 n h2
   rw[Nat.zero_add] at hXe
   go_upto_region 6 with (first
    |((with_reducible refine Qf 40 (.tmp 19) g (o+j*32) _ 32 _ HL.out hp2 Tryz.underlying40 rfl (by kernel_rfl) ?_ ?_ ?_ ?_);rfl;rfl;rfl)
    |((with_reducible refine Qw 40 (.tmp 6) (.tmp 20) _ _ (ds[j].map b8) 32 HL.out ?_ (by kernel_rfl) (Qi _) ?_ ?_ ?_ ?_ ?_);rfl;rfl;rfl;rfl;rfl))
   refine Qe (fun w'=>Blk w' wo.heap.size 40 (ds[j].map b8)∧Below w.heap.size w w') ⟨HD.out.2,HI.out.alloc HI.out.size _⟩ ?_
   rintro w2 ⟨hb2,hbl2⟩
   have HE:=hid (Qa hb2 hbl2)
   clear hb2 hbl2
   go_wp2_with fail
   go_loopg [24] (32-n) (fun g i wI=>∃ k:Nat,k+g=32-n∧i= .int .i64 k∧wI=w2)
   case atStart=>exact⟨0,by omega,rfl,rfl⟩
   case round=>
    obtain⟨k,hk,rfl,rfl⟩:=hrel
    by_cases hkl:k<32-n
    ·obtain rfl:=hXe (by omega)
     have hk0:(0:Int)≤(k:Int)∧(k:Int)< ((32-n:Nat):Int):=by omega
     have c0:wr.cell? ⟨wo.heap.size,n+k,none⟩=some (b8 0):=by
      rw[HE.out.1.cell,List.getElem?_map,Km n _ HD.out.1.1 h2 HD.out.1.2 _ (by omega) (by omega)];rfl
     go_wp2_with fail
     go_roundg (gk-1)
     case measure=>omega
     case rel=>exact⟨k+1,by omega,by go_num,rfl⟩
    ·obtain rfl:k=32-n:=by omega
     go_wp2_with fail
     go_roundg (ds.length-(j+1))
     case measure=>omega
     case rel=>exact⟨j+1,by omega,by go_num,HE.out.2⟩
  ·go_wp2_with fail
   go_ret
   exact⟨rfl,HI.out⟩
theorem Qgo (n:Nat)(h1:1≤n)(h2:n≤32)(d:List UInt8)(hd:d.length=32)(hf:Dg.form n d=true)(i:Nat)(hi:i<2*n)(w:World):
 Calls Tryz.prog 89 #[.int .i64 n,dg d,.int .i64 i] w fun e w'=>e= .returned (.tuple #[.int .i64 (Dg.digit d i),.int .i64 0])∧Below w.heap.size w w':=by
 have hl:(d.map b8).length=32:=by simp[hd]
 have hfit:XZ n [d]:=by intro x hx;simp at hx;subst hx;exact⟨hd,hf⟩
 have hdl:=Q3 fun d hd=>(hfit d hd).1
 have hlen1:(dgs [d]).length=1:=rfl
 have hi0:(0:Int)≤(i:Int)∧(i:Int)<2*n:=by omega
 have hb:Blk (w.alloc (.cells (d.map b8).toArray 40)) w.heap.size 40 (d.map b8):=Blk.new w _ _
 have hbl:Below w.heap.size w (w.alloc (.cells (d.map b8).toArray 40)):=(Below.refl _ _).alloc (Nat.le_refl _) _
 go_enter Tryz.func89,Tryz.ntmps89
 go_upto_region 1 with fail
 refine Qe (fun w'=>Blk w' w.heap.size 40 (d.map b8)∧Below w.heap.size w w') ⟨hb,hbl⟩ ?_
 rintro w1 ⟨hb1,hbl1⟩
 have HB:=hid (Qa hb1 hbl1)
 have HL:=hid hl
 clear hb hbl hb1 hbl1 hl
 have hr1:=HB.out.1.whole
 go_wp2_with (first
  |(go_at_call 140
    refine (Qbl d i hd (by omega) _).mono ?_
    rintro e w3 ⟨rfl,hk⟩
    have HZ:=hid hk;clear hk)
  |((with_reducible refine Qf 40 (.tmp 4) w.heap.size 0 _ 32 _ HL.out hr2 Tryz.underlying40 rfl (by kernel_rfl) ?_ ?_ ?_ ?_);rfl;rfl;rfl)
  |((with_reducible refine Qf 40 (.tmp 4) w.heap.size 0 _ 32 _ HL.out hr1 Tryz.underlying40 rfl (by kernel_rfl) ?_ ?_ ?_ ?_);rfl;rfl;rfl)
  |((with_reducible refine QY 105 40 1 #[(0,.tmp 10)] (dgs [d]) 32 (by decide) hdl hlen1 (by decide) (by decide) Tryz.underlying105 (by kernel_rfl) ?_ ?_ ?_ ?_);rfl;rfl;rfl)
  |(go_at_call 139
    refine (Qbm n h1 h2 _ 1 [d] _ hfit (Rd.of _ (Blk.new w1 _ (dgs [d]).flatten).whole) (by simp)).mono ?_
    rintro e w2 ⟨rfl,hb⟩
    have hbl:=(Qb w1 (.cells (dgs [d]).flatten.toArray 40)).trans (hb.mono (by simp))
    have hr2:=(HB.out.1.grown hbl).whole
    have HY:=hid hbl;clear hb hbl))
 go_ret2
 exact⟨rfl,gro (gro HB.out.2 HY.out) HZ.out⟩
def Xg (n:Nat)(ks:List (List UInt8)):List UInt8:=ks.flatMap fun k=>k.take n
theorem KN (n:Nat)(ks:List (List UInt8))(j:Nat)(hj:j<ks.length):Xg n (ks.take (j+1))=Xg n (ks.take j)++(ks[j]).take n:=by
 unfold Xg
 rw[List.take_succ_eq_append_getElem hj,List.flatMap_append,List.flatMap_cons,List.flatMap_nil,List.append_nil]
theorem Zs (n:Nat):∀ (ks:List (List UInt8)),(Xg n ks).length≤n*ks.length
 |[]=>by simp[Xg]
 |k :: ks=>by
  have:=Zs n ks
  unfold Xg at this ⊢
  rw[List.flatMap_cons,List.length_append,List.length_cons,Nat.mul_add]
  have h:=List.length_take_le n k
  omega
theorem V6 (n:Nat)(h1:1≤n)(h2:n≤32)(m:Nat)(hm:m<65536)(A:Option Addr)(c:Nat)(ks:List (List UInt8))(w:World)(hf:XZ n ks)(hA:Rd w A (dgs ks).flatten)(hp:Nib.pop m=ks.length)(hm0:m≠0)(hk16:ks.length≤16):
 Calls Tryz.prog 219 #[.int .i64 n,.int .u16 m,.slice A ks.length c] w fun e w'=>∃ A' c',e= .returned (.tuple #[.slice A' (Dg.branchIn n m ks).length c',.int .i64 0])∧Below w.heap.size w w'∧Rd w' A' ((Dg.branchIn n m ks).map b8)∧(Dg.branchIn n m ks).length≤c':=by
 have HA:=hid (Qa hf hA)
 clear hf hA
 have hm0':((m:Int) == 0)=false:=by
  rw[beq_eq_false_iff_ne];omega
 go_enter Tryz.func219,Tryz.ntmps219
 go_wp2_with (first
  |(go_at_call 125
    refine (K8 n h1 h2 A c ks _ HA.out.1 HA.out.2 (by omega)).mono ?_
    rintro e w2 ⟨rfl,hb⟩
    have HB:=hid hb;clear hb)
  |(go_at_call 191
    refine (V5 m hm _).mono ?_
    rw[hp]
    rintro e w3 ⟨rfl,hb⟩
    have HC:=hid hb;clear hb)
  |(go_at_call 126
    refine (Qbi 4 (Wr.new w3) (by simp)).mono ?_
    rintro e w4 ⟨rfl,h⟩
    have HS:=hid h
    clear h)
  |(go_at_call 136
    refine (Qho m HS.out hm (by simp)).mono ?_
    rintro e w5 ⟨rfl,h⟩
    have HT:=hid h
    clear h))
 have hwr:=HT.out
 rw[show []++[(4:UInt8)]++Wi.wide m 2=4 :: Wi.wide m 2++Xg n (ks.take 0) by simp[Xg]] at hwr
 have hbase:Below w.heap.size w w3:=gro HB.out HC.out
 have HW:=hid (Qa hwr hbase)
 clear hwr HT HS hbase HB HC
 have hwl:=Wi.wide_length m 2
 go_loopg [32] ks.length (fun g i wr=>∃ j:Nat,j+g=ks.length∧i= .int .i64 j∧Wr w3.heap.size w3.heap.size w3 wr (4 :: Wi.wide m 2++Xg n (ks.take j)))
 case atStart=>exact⟨0,by omega,rfl,HW.out.1⟩
 case round=>
  obtain⟨j,hj,rfl,hi⟩:=hrel
  have HI:=hid hi
  clear hi
  by_cases hlt:j<ks.length
  ·have hl32:∀ x∈dgs ks,x.length=32:=Q3 fun d hd=>(HA.out.1 d hd).1
   have hjl:j< (dgs ks).length:=by simpa [dgs] using hlt
   obtain⟨g,o,rfl,hr⟩:=HA.out.2 (by
    intro e
    have:=Qk 32 _ hl32
    rw[e] at this
    simp at this;omega)
   have hp:=Qt hr hl32 j hjl
   have hlj:(dgs ks)[j].length=32:=hl32 _ (List.getElem_mem hjl)
   have hej:(dgs ks)[j]=ks[j].map b8:=by simp[dgs]
   rw[hej] at hp hlj
   have hlb:=Qo hp (by omega)
   have hbw:Below w.heap.size w wr:=gro HW.out.2 HI.out.bl
   have hp2:wr.rangeAt g (o+j*32) (ks[j].map b8):=Qh hp hbw hlb
   have hb:Blk (wr.alloc (.cells (ks[j].map b8).toArray 40)) wr.heap.size 40 (ks[j].map b8):=Blk.new _ _ _
   have hwn:Wr w3.heap.size w3.heap.size w3 (wr.alloc (.cells (ks[j].map b8).toArray 40)) _:=HI.out.grown (Qb wr _)
   have htk:(ks[j].take n).length=n:=by rw[List.length_map] at hlj;rw[List.length_take];omega
   have hkl:(Xg n (ks.take j)).length≤n*16:=by
    have h:=Zs n (ks.take j)
    have h3:n*(ks.take j).length≤n*16:=Nat.mul_le_mul_left n (by rw[List.length_take];omega)
    omega
   have hrd:Rd (wr.alloc (.cells (ks[j].map b8).toArray 40)) (some ⟨wr.heap.size,0,none⟩) ((ks[j].take n).map b8):=by
    rw[List.map_take];exact (Rd.of _ hb.whole).take n
   have hll:(4 :: Wi.wide m 2++Xg n (ks.take j)).length+(ks[j].take n).length<70368744177664:=by
    simp only[List.length_append,List.length_cons,hwl,htk];omega
   have hcall:=JB (ks[j].take n) n (some ⟨wr.heap.size,0,none⟩) 32 hwn htk hrd hll
   have hsl:=QH (P:=Tryz.prog) Tryz.underlying40 (by kernel_rfl) wr.heap.size 0 n h2
   have HD:=hid hcall
   clear hr hp hej hl32 hb hwn hkl hrd hll hcall hbw htk
   have HL:=hid hlj
   clear hlj
   go_wp2_with (first
    |((with_reducible refine Qf 40 (.tmp 34) g (o+j*32) _ 32 _ HL.out hp2 Tryz.underlying40 rfl (by kernel_rfl) ?_ ?_ ?_ ?_);rfl;rfl;rfl)
    |((with_reducible refine Qw 40 (.tmp 11) (.tmp 35) _ _ (ks[j].map b8) 32 HL.out ?_ (by kernel_rfl) (Qi _) ?_ ?_ ?_ ?_ ?_);rfl;rfl;rfl;rfl;rfl)
    |(go_at_call 128;refine HD.out.mono ?_;rintro e w6 ⟨rfl,h⟩;have HX:=hid h;clear h))
   go_roundg (gk-1)
   case measure=>omega
   case rel=>
    refine⟨j+1,by omega,by go_num,?_⟩
    rw[KN n ks j hlt,←List.append_assoc]
    exact HX.out
  ·obtain rfl:j=ks.length:=by omega
   have hwr:=HI.out
   rw[List.take_length,show 4 :: Wi.wide m 2++Xg n ks=Dg.branchIn n m ks from rfl] at hwr
   have hbl:(Dg.branchIn n m ks).length<17592186044416:=by
    have h:=Zs n ks
    have h3:n*ks.length≤n*16:=Nat.mul_le_mul_left n hk16
    have h4:(Dg.branchIn n m ks).length=1+(2+(Xg n ks).length):=by
     unfold Dg.branchIn Xg
     simp only[List.length_cons,List.length_append,hwl];omega
    omega
   have HV:=hid (Qa hwr hbl)
   clear hwr hbl
   go_wp2_with (
    (go_at_call 112
     refine (Zm HV.out.1 HV.out.2).mono ?_
     rintro e w7 ⟨A',c',rfl,h1,h2,h3,h4⟩
     have HZ:=hid (Qa h1 (Qa h3 h4))
     clear h1 h2 h3 h4))
   go_ret2
   exact⟨A',c',rfl,gro HW.out.2 HZ.out.1,HZ.out.2⟩
theorem Qbn (n:Nat)(h1:1≤n)(h2:n≤32)(m:Nat)(hm:m<65536)(A:Option Addr)(c:Nat)(ks:List (List UInt8))(w:World)(hw:Qs w)(hf:XZ n ks)(hA:Rd w A (dgs ks).flatten)(hp:Nib.pop m=ks.length)(hm0:m≠0)(hk16:ks.length≤16):
 Calls Tryz.prog 204 #[.int .i64 n,.int .u16 m,.slice A ks.length c] w fun e w'=>e= .returned (.tuple #[dg (Dg.branch n m ks),.int .i64 0])∧Below w.heap.size w w':=by
 have hcl:=Dg.sum_length n (Dg.branchIn n m ks) h2
 have HC:=hid (show ((Dg.branch n m ks).map b8).length=32 by unfold Dg.branch;simp[hcl])
 have hil:(Dg.branchIn n m ks).length<576460752303423488:=by
  have h:=Zs n ks
  have h3:n*ks.length≤n*16:=Nat.mul_le_mul_left n hk16
  have h4:(Dg.branchIn n m ks).length=1+(2+(Xg n ks).length):=by
   unfold Dg.branchIn Xg
   simp only[List.length_cons,List.length_append,Wi.wide_length];omega
  omega
 have HL:=hid hil
 have HF:=hid (Qa hf hA)
 clear hf hA hcl hil
 go_enter Tryz.func204,Tryz.ntmps204
 go_upto_region 1 with fail
 refine Qe (Res w) (Res.new w) ?_
 rintro w1 hr
 have HR:=hid hr
 clear hr
 go_wp2_with (first
  |(go_at_call 219
    refine (V6 n h1 h2 m hm A c ks w1 HF.out.1 (HF.out.2.grown HR.out.bl) hp hm0 hk16).mono ?_
    rintro e w2 ⟨A2,c2,rfl,hb,hr,hc⟩
    have HV:=hid (Qa hb (Qa hr hc));clear hb hr hc)
  |(go_at_call 80
    refine (Qda n h1 h2 _ (Dg.branchIn n m ks) w2 ⟨A2,c2,rfl,HV.out.2.1,HV.out.2.2⟩ ((HR.out.words hw).below HV.out.1) HL.out).mono ?_
    rintro e w3 ⟨rfl,hb⟩
    have hb2:Below w1.heap.size w1 w3:=gro HV.out.1 hb
    have ht:=HR.out.there hb2
    have HB:=hid hb2;clear hb hb2)
  |((with_reducible refine Qv 40 (.tmp 6) (.tmp 21) w.heap.size 0 ((Dg.branch n m ks).map b8) 32 HC.out ht (by kernel_rfl) (Qi _) ?_ ?_ ?_ ?_ ?_);rfl;rfl;rfl;rfl))
 exact Zl HC.out ht (HR.out.below HB.out) rfl rfl rfl rfl (fun _ h=>⟨rfl,h⟩)
namespace En
def chk (kind:UInt8)(kl vl:Nat):Nat:=if 64<kl∨256<vl then 2 else if (kind≠1∧kind≠2)∨(kind=2∧0<vl) then 3 else 0
def check (e:Ent):Nat:=chk e.kind e.key.length e.val.length
def bytes (e:Ent):List UInt8:=e.kind :: (Wi.blob e.key++(if e.kind=1 then Wi.blob e.val else []))
end En
def Xu (w:World)(x:List Value)(e:Ent):Prop:=∃ A1 c1 A2 c2,x=[b8 e.kind,.slice A1 e.key.length c1,.slice A2 e.val.length c2]∧Rd w A1 (e.key.map b8)∧Rd w A2 (e.val.map b8)∧e.key.length≤c1∧e.val.length≤c2
theorem Xu.grown {w w':World}{x:List Value}{p:Ent}(h:Xu w x p)(hb:Below w.heap.size w w'):Xu w' x p:=by
 obtain⟨A1,c1,A2,c2,e,h1,h2,h3,h4⟩:=h
 exact⟨A1,c1,A2,c2,e,h1.grown hb,h2.grown hb,h3,h4⟩
structure QK (w:World) (L:List (List Value)) (es:List Ent):Prop where
 len:L.length=es.length
 at_:∀ (i:Nat) (x:List Value) (p:Ent),L[i]?=some x→es[i]?=some p→Xu w x p
theorem QK.grown {w w':World}{L:List (List Value)}{ps:List Ent}(h:QK w L ps)(hb:Below w.heap.size w w'):QK w' L ps:=⟨h.len,fun i x p h1 h2=>(h.at_ i x p h1 h2).grown hb⟩
theorem QK.three {w:World}{L:List (List Value)}{ps:List Ent}(h:QK w L ps):∀ x∈L,x.length=3:=by
 intro x hx
 obtain⟨i,hi,rfl⟩:=List.getElem_of_mem hx
 have hps:i<ps.length:=by have:=h.len;omega
 obtain⟨A1,c1,A2,c2,e,_⟩:=h.at_ i L[i] ps[i] (by simp[hi]) (by simp[hps])
 rw[e];rfl
theorem Yb (x:UInt8):n8 x=1↔x=1:=⟨fun h=>by
 have:=Qc2 x 1
 have h1:(n8 x == n8 1)=true:=by rw[h];rfl
 rw[this] at h1
 simpa using h1,fun h=>by subst h;rfl⟩
theorem Kn (x:UInt8):n8 x=2↔x=2:=⟨fun h=>by
 have:=Qc2 x 2
 have h1:(n8 x == n8 2)=true:=by rw[h];rfl
 rw[this] at h1
 simpa using h1,fun h=>by subst h;rfl⟩
theorem JR (kind:UInt8)(A1 A2:Option Addr)(kl c1 vl c2:Nat)(w:World):
 Calls Tryz.prog 39 #[.agg #[b8 kind,.slice A1 kl c1,.slice A2 vl c2]] w fun e w'=>e= .returned (.int .i64 (En.chk kind kl vl))∧Below w.heap.size w w':=by
 have hbl:=Qb w (.cells #[b8 kind,.slice A1 kl c1,.slice A2 vl c2] 36)
 have HB:=hid hbl
 clear hbl
 by_cases h1:64<kl
 ·have HE:=hid (show En.chk kind kl vl=2 by simp[En.chk,h1])
  have i1:((64:Int)< (kl:Int)):=by omega
  clear h1
  go_enter Tryz.func39,Tryz.ntmps39
  go_wp2_with fail
  go_ret
  exact⟨by rw[HE.out];rfl,HB.out⟩
 by_cases h2:256<vl
 ·have HE:=hid (show En.chk kind kl vl=2 by simp[En.chk,h2])
  have i1:¬((64:Int)< (kl:Int)):=by omega
  have i2:((256:Int)< (vl:Int)):=by omega
  clear h1 h2
  go_enter Tryz.func39,Tryz.ntmps39
  go_wp2_with fail
  go_ret
  exact⟨by rw[HE.out];rfl,HB.out⟩
 have i1:¬((64:Int)< (kl:Int)):=by omega
 have i2:¬((256:Int)< (vl:Int)):=by omega
 by_cases h3:kind=1
 ·have HE:=hid (show En.chk kind kl vl=0 by simp[En.chk,h1,h2,h3])
  have k1:n8 kind=1:=(Yb _).2 h3
  clear h1 h2 h3
  go_enter Tryz.func39,Tryz.ntmps39
  go_wp2_with fail
  go_ret
  exact⟨by rw[HE.out];rfl,HB.out⟩
 by_cases h4:kind=2
 ·by_cases h5:0<vl
  ·have HE:=hid (show En.chk kind kl vl=3 by simp[En.chk,h1,h2,h4,h5])
   have k2:n8 kind=2:=(Kn _).2 h4
   have i3:((0:Int)< (vl:Int)):=by omega
   clear h1 h2 h3 h4 h5
   go_enter Tryz.func39,Tryz.ntmps39
   go_wp2_with fail
   go_ret
   exact⟨by rw[HE.out];rfl,HB.out⟩
  ·have HE:=hid (show En.chk kind kl vl=0 by simp[En.chk,h1,h2,h4,h5])
   have k2:n8 kind=2:=(Kn _).2 h4
   obtain rfl:vl=0:=by omega
   clear h1 h2 h3 h4 h5
   go_enter Tryz.func39,Tryz.ntmps39
   go_wp2_with fail
   go_ret
   exact⟨by rw[HE.out];rfl,HB.out⟩
 ·have HE:=hid (show En.chk kind kl vl=3 by simp[En.chk,h1,h2,h3,h4])
  have k1:¬n8 kind=1:=fun h=>h3 ((Yb _).1 h)
  have k2:¬n8 kind=2:=fun h=>h4 ((Kn _).1 h)
  clear h1 h2 h3 h4
  go_enter Tryz.func39,Tryz.ntmps39
  go_wp2_with fail
  go_ret
  exact⟨by rw[HE.out];rfl,HB.out⟩
theorem Wm (kind:UInt8)(A1 A2:Option Addr)(kl c1 vl c2:Nat)(w:World):
 Calls Tryz.prog 43 #[.agg #[b8 kind,.slice A1 kl c1,.slice A2 vl c2]] w fun e w'=>e= .returned (.int .i64 (En.chk kind kl vl))∧Below w.heap.size w w':=by
 have hbl:=Qb w (.cells #[b8 kind,.slice A1 kl c1,.slice A2 vl c2] 36)
 have HB:=hid hbl
 clear hbl
 by_cases h1:64<kl
 ·have HE:=hid (show En.chk kind kl vl=2 by simp[En.chk,h1])
  have i1:((64:Int)< (kl:Int)):=by omega
  clear h1
  go_enter Tryz.func43,Tryz.ntmps43
  go_wp2_with fail
  go_ret
  exact⟨by rw[HE.out];rfl,HB.out⟩
 by_cases h2:256<vl
 ·have HE:=hid (show En.chk kind kl vl=2 by simp[En.chk,h2])
  have i1:¬((64:Int)< (kl:Int)):=by omega
  have i2:((256:Int)< (vl:Int)):=by omega
  clear h1 h2
  go_enter Tryz.func43,Tryz.ntmps43
  go_wp2_with fail
  go_ret
  exact⟨by rw[HE.out];rfl,HB.out⟩
 have i1:¬((64:Int)< (kl:Int)):=by omega
 have i2:¬((256:Int)< (vl:Int)):=by omega
 by_cases h3:kind=1
 ·have HE:=hid (show En.chk kind kl vl=0 by simp[En.chk,h1,h2,h3])
  have k1:n8 kind=1:=(Yb _).2 h3
  clear h1 h2 h3
  go_enter Tryz.func43,Tryz.ntmps43
  go_wp2_with fail
  go_ret
  exact⟨by rw[HE.out];rfl,HB.out⟩
 by_cases h4:kind=2
 ·by_cases h5:0<vl
  ·have HE:=hid (show En.chk kind kl vl=3 by simp[En.chk,h1,h2,h4,h5])
   have k2:n8 kind=2:=(Kn _).2 h4
   have i3:((0:Int)< (vl:Int)):=by omega
   clear h1 h2 h3 h4 h5
   go_enter Tryz.func43,Tryz.ntmps43
   go_wp2_with fail
   go_ret
   exact⟨by rw[HE.out];rfl,HB.out⟩
  ·have HE:=hid (show En.chk kind kl vl=0 by simp[En.chk,h1,h2,h4,h5])
   have k2:n8 kind=2:=(Kn _).2 h4
   obtain rfl:vl=0:=by omega
   clear h1 h2 h3 h4 h5
   go_enter Tryz.func43,Tryz.ntmps43
   go_wp2_with fail
   go_ret
   exact⟨by rw[HE.out];rfl,HB.out⟩
 ·have HE:=hid (show En.chk kind kl vl=3 by simp[En.chk,h1,h2,h3,h4])
  have k1:¬n8 kind=1:=fun h=>h3 ((Yb _).1 h)
  have k2:¬n8 kind=2:=fun h=>h4 ((Kn _).1 h)
  clear h1 h2 h3 h4
  go_enter Tryz.func43,Tryz.ntmps43
  go_wp2_with fail
  go_ret
  exact⟨by rw[HE.out];rfl,HB.out⟩
def En.least (a b:Nat):Nat:=if a=0∨(b≠0∧b<a) then b else a
theorem Qao (a b:Nat)(ha:a<100)(hb:b<100)(w:World):
 Calls Tryz.prog 109 #[.int .i64 a,.int .i64 b] w fun e w'=>e= .returned (.int .i64 (En.least a b))∧w=w':=by
 by_cases h1:a=0
 ·subst h1
  go_enter Tryz.func109,Tryz.ntmps109
  go_wp2_with fail
  go_ret
  exact⟨by simp[En.least],rfl⟩
 have i1:((a:Int) == 0)=false:=by rw[beq_eq_false_iff_ne];omega
 by_cases h2:b=0
 ·subst h2
  have HE:=hid (show En.least a 0=a by simp[En.least,h1])
  clear h1
  go_enter Tryz.func109,Tryz.ntmps109
  go_wp2_with fail
  go_ret
  exact⟨by rw[HE.out];rfl,rfl⟩
 have i2:((b:Int) != 0)=true:=by rw[bne_iff_ne];omega
 by_cases h3:b<a
 ·have i3:(b:Int)<a:=by omega
  have HE:=hid (show En.least a b=b by simp[En.least,h1,h2,h3])
  clear h1 h2
  go_enter Tryz.func109,Tryz.ntmps109
  go_wp2_with fail
  go_ret
  exact⟨by rw[HE.out];rfl,rfl⟩
 ·have i3:¬(b:Int)<a:=by omega
  have HE:=hid (show En.least a b=a by simp[En.least,h1,h2,h3])
  clear h1 h2
  go_enter Tryz.func109,Tryz.ntmps109
  go_wp2_with fail
  go_ret
  exact⟨by rw[HE.out];rfl,rfl⟩
theorem Qdd (F n:Nat)(hF:F<18446744073709551616)(hn:n<9223372036854775808)(w:World):
 Calls Tryz.prog 108 #[.int .u64 F,.int .i64 n] w fun e w'=>e= .returned (.bool (decide (F+n<18446744073709551616)))∧w=w':=by
 have h0:(0:Int)≤(n:Int)∧(n:Int)<18446744073709551616:=by omega
 have hN:IntKind.u64.wrap (n:Int)=(n:Int):=by rw[IntKind.wrap_u64];omega
 go_enter Tryz.func108,Tryz.ntmps108
 go_wp2_with fail
 go_ret
 refine⟨?_,rfl⟩
 have e:decide ((F:Int)≤IntKind.u64.wrap ((F:Int)+n))=decide (F+n<18446744073709551616):=by
  rw[decide_eq_decide,IntKind.wrap_u64]
  omega
 rw[← e];rfl
theorem Wr.weaken {g:Nat}{w0 w1 w:World}{l:List UInt8}(h:Wr w1.heap.size g w1 w l)(hb:Below w0.heap.size w0 w1):Wr w0.heap.size g w0 w l:=
 ⟨h.wr,gro hb h.bl,fun k hk hs=>Nat.le_trans hb.size (h.far k hk hs)⟩
theorem Qhr {B g:Nat}{w0 w:World}{l:List UInt8}(x:UInt8)(h:Wr B g w0 w l)(hlen:l.length<35184372088832):
 Calls Tryz.prog 126 #[.pointer (some ⟨g,0,none⟩),b8 x] w fun e w'=>e= .returned (.tuple #[])∧Wr B g w0 w' (l++[x])∧Oth w w':=
 (We g l x w h.wr hlen).mono fun _ _ ⟨h1,h2,h3⟩=>⟨h1,h.step h2 h3,Wg h.wr h3⟩
theorem Oth.of_grown {w w':World}(h:Below w.heap.size w w'):Oth w w':=fun _ _ _ hb _ _=>hb.grown h
theorem Oth.trans {a b c:World}(h:Oth a b)(k:Oth b c):Oth a c:=fun _ _ _ hb h1 h2=>k _ _ _ (h _ _ _ hb h1 h2) h1 h2
theorem Vt (g:Nat)(w0:World)(e:Ent)(A1 A2:Option Addr)(c1 c2:Nat)(l:List UInt8)(w:World)(hw:Wr w0.heap.size g w0 w l)(hr1:Rd w0 A1 (e.key.map b8))(hr2:Rd w0 A2 (e.val.map b8))
 (hlen:l.length<1099511627776) (hk:e.key.length<1099511627776) (hv:e.val.length<1099511627776):
 Calls Tryz.prog 111 #[.pointer (some ⟨g,0,none⟩),.agg #[b8 e.kind,.slice A1 e.key.length c1,.slice A2 e.val.length c2]] w fun ee w'=>ee= .returned (.tuple #[])∧Wr w0.heap.size g w0 w' (l++En.bytes e)∧Oth w w':=by
 rcases e with ⟨kind,key,val⟩
 simp only[] at hr1 hr2 hk hv ⊢
 have hbx:=Qb w (.cells #[b8 kind,.slice A1 key.length c1,.slice A2 val.length c2] 36)
 have hw1:=hw.grown hbx
 have hbk:Blk (w.alloc (.cells #[b8 kind,.slice A1 key.length c1,.slice A2 val.length c2] 36)) w.heap.size 36 [b8 kind,.slice A1 key.length c1,.slice A2 val.length c2]:=Blk.new w _ _
 have hs1:key≠[]→∀ ad,A1=some ad→ad.block<w0.heap.size:=fun hn ad e=>Rd.lt hr1 (by simpa using hn) ad e
 have hs2:val≠[]→∀ ad,A2=some ad→ad.block<w0.heap.size:=fun hn ad e=>Rd.lt hr2 (by simpa using hn) ad e
 have hl1:(l++[kind]).length+key.length<4398046511104:=by simp;omega
 have hul:=Wi.uvar_length 9 key.length (by omega)
 have hl2:(l++[kind]++Wi.blob key).length+val.length<4398046511104:=by simp[Wi.blob];omega
 have HW:=hid (Qa hw1 (Qa hbk (Qa hr1 (Qa hr2 (Qa hs1 (Qa hs2 (Qa hl1 (Qa hl2 (Oth.of_grown hbx)))))))))
 clear hw hbx hw1 hbk hr1 hr2 hs1 hs2 hl1 hl2 hul
 by_cases h1:kind=1
 ·subst h1
  go_enter Tryz.func111,Tryz.ntmps111
  go_wp2_with (first
   |(go_at_call 134
     refine (Kj val _ A2 c2 HT.out.1 rfl (HW.out.2.2.2.1.grown HT.out.1.bl) HW.out.2.2.2.2.2.1 HT.out.1.bl.size HW.out.2.2.2.2.2.2.2.1).mono ?_
     rintro e w5 ⟨rfl,h,ho⟩
     have HU:=hid (Qa h ho);clear h ho)
   |(go_at_call 134
     refine (Kj key _ A1 c1 HS.out.1 rfl (HW.out.2.2.1.grown HS.out.1.bl) HW.out.2.2.2.2.1 HS.out.1.bl.size HW.out.2.2.2.2.2.2.1).mono ?_
     rintro e w4 ⟨rfl,h,ho⟩
     have hb4:=ho _ _ _ HS.out.2.2 (by decide) (by decide)
     have c40:w4.cell? ⟨w.heap.size,0,none⟩=some (b8 1):=by rw[hb4.cell];rfl
     have c42:w4.cell? ⟨w.heap.size,2,none⟩=some (.slice A2 val.length c2):=by rw[hb4.cell];rfl
     have HT:=hid (Qa h (HS.out.2.1.trans ho));clear h ho hb4)
   |(go_at_call 126
     refine (Qhr 1 HW.out.1 (by omega)).mono ?_
     rintro e w3 ⟨rfl,h,ho⟩
     have hb3:=ho _ _ _ HW.out.2.1 (by decide) (by decide)
     have c31:w3.cell? ⟨w.heap.size,1,none⟩=some (.slice A1 key.length c1):=by rw[hb3.cell];rfl
     have HS:=hid (Qa h (Qa ho hb3));clear h ho hb3))
  go_end0
  refine⟨rfl,?_,HW.out.2.2.2.2.2.2.2.2.trans (HT.out.2.trans HU.out.2)⟩
  have:=HU.out.1
  simpa [En.bytes] using this
 ·have k1:¬n8 kind=1:=fun h=>h1 ((Yb _).1 h)
  go_enter Tryz.func111,Tryz.ntmps111
  go_wp2_with (first
   |(go_at_call 134
     refine (Kj key _ A1 c1 HS.out.1 rfl (HW.out.2.2.1.grown HS.out.1.bl) HW.out.2.2.2.2.1 HS.out.1.bl.size HW.out.2.2.2.2.2.2.1).mono ?_
     rintro e w4 ⟨rfl,h,ho⟩
     have hb4:=ho _ _ _ HS.out.2.2 (by decide) (by decide)
     have c40:w4.cell? ⟨w.heap.size,0,none⟩=some (b8 kind):=by rw[hb4.cell];rfl
     have HT:=hid (Qa h (HS.out.2.1.trans ho));clear h ho hb4)
   |(go_at_call 126
     refine (Qhr kind HW.out.1 (by omega)).mono ?_
     rintro e w3 ⟨rfl,h,ho⟩
     have hb3:=ho _ _ _ HW.out.2.1 (by decide) (by decide)
     have c31:w3.cell? ⟨w.heap.size,1,none⟩=some (.slice A1 key.length c1):=by rw[hb3.cell];rfl
     have HS:=hid (Qa h (Qa ho hb3));clear h ho hb3))
  go_end0
  refine⟨rfl,?_,HW.out.2.2.2.2.2.2.2.2.trans HT.out.2⟩
  have:=HT.out.1
  simpa [En.bytes,h1] using this
theorem En.bytes_len (e:Ent)(h:En.check e=0):(En.bytes e).length<400:=by
 unfold En.check En.chk at h
 have h1:¬(64<e.key.length∨256<e.val.length):=by
  intro h'
  rw[if_pos h'] at h;cases h
 have hu1:=Wi.uvar_length 9 e.key.length (by omega)
 have hu2:=Wi.uvar_length 9 e.val.length (by omega)
 unfold En.bytes Wi.blob
 simp only[List.length_cons,List.length_append]
 split<;>simp<;>omega
theorem En.lens (e:Ent)(h:En.check e=0):e.key.length≤64∧e.val.length≤256:=by
 unfold En.check En.chk at h
 have h1:¬(64<e.key.length∨256<e.val.length):=by
  intro h'
  rw[if_pos h'] at h;cases h
 omega
theorem Qbo (e:Ent)(A1 A2:Option Addr)(c1 c2:Nat)(w:World)(hr1:Rd w A1 (e.key.map b8))(hr2:Rd w A2 (e.val.map b8))(hok:En.check e=0):
 Calls Tryz.prog 114 #[.agg #[b8 e.kind,.slice A1 e.key.length c1,.slice A2 e.val.length c2]] w fun ee w'=>∃ A c,ee= .returned (.tuple #[.slice A (En.bytes e).length c,.int .i64 0])∧Below w.heap.size w w'∧Rd w' A ((En.bytes e).map b8)∧(En.bytes e).length≤c:=by
 have hlen:=En.lens e hok
 have hbl:=En.bytes_len e hok
 have hbk:Blk (w.alloc (.cells #[b8 e.kind,.slice A1 e.key.length c1,.slice A2 e.val.length c2] 36)) w.heap.size 36 [b8 e.kind,.slice A1 e.key.length c1,.slice A2 e.val.length c2]:=Blk.new w _ _
 have HE:=hid (Qa hr1 (Qa hr2 (Qa hok (Qa hlen hbl))))
 clear hr1 hr2 hok hlen hbl
 go_enter Tryz.func114,Tryz.ntmps114
 go_upto_region 1 with fail
 refine Qe (fun w'=>Blk w' w.heap.size 36 [b8 e.kind,.slice A1 e.key.length c1,.slice A2 e.val.length c2]∧Below w.heap.size w w') ⟨hbk,Qb _ _⟩ ?_
 clear hbk
 rintro w1 ⟨hb,hbl⟩
 have hr:=hb.whole
 have HB:=hid (Qa hb hbl)
 clear hb hbl
 go_wp2_with (first
  |(go_at_call 112
    refine (Zm HW.out (by have:=HE.out.2.2.2.2;simp only[List.nil_append];omega)).mono ?_
    rintro e7 w7 ⟨A',c',rfl,h1,h2,h3,h4⟩
    rw[List.nil_append] at h3 h4
    have HZ:=hid (Qa h1 (Qa h3 h4))
    clear h1 h2 h3 h4)
  |(go_at_call 111
    have hn:=(Wr.new w2).weaken (gro HB.out.2 HC.out)
    refine (Vt w2.heap.size w e A1 A2 c1 c2 [] _ hn HE.out.1 HE.out.2.1 (by simp) (by have:=HE.out.2.2.2.1;omega) (by have:=HE.out.2.2.2.1;omega)).mono ?_
    rintro ee w3 ⟨rfl,h,-⟩
    have HW:=hid h;clear h)
  |((with_reducible refine Qf 36 (.tmp 1) w.heap.size 0 _ 3 _ rfl hr3 Tryz.underlying36 rfl (by kernel_rfl) ?_ ?_ ?_ ?_);rfl;rfl;rfl)
  |((with_reducible refine Qf 36 (.tmp 1) w.heap.size 0 _ 3 _ rfl hr Tryz.underlying36 rfl (by kernel_rfl) ?_ ?_ ?_ ?_);rfl;rfl;rfl)
  |(go_at_call 39
    refine (JR e.kind A1 A2 e.key.length c1 e.val.length c2 _).mono ?_
    rw[show En.chk e.kind e.key.length e.val.length=0 from HE.out.2.2.1]
    rintro ee w2 ⟨rfl,hk⟩
    have hr3:(w2.alloc (.cells #[.slice none 0 0] 184)).rangeAt w.heap.size 0 [b8 e.kind,.slice A1 e.key.length c1,.slice A2 e.val.length c2]:=((HB.out.1.grown hk).grown (Qb _ _)).whole
    have HC:=hid hk;clear hk))
 go_ret2
 exact⟨A',c',rfl,HZ.out.1,HZ.out.2⟩
end Go.Proofs.YtpnakfeafekneaaGreatDoor
