/- Part 7 of this proof. -/
import Derived.BigQuiet
import Derived.Deep.LoopGhost
import Derived.BigRegion
import Derived.Test.YtpnakfeafekneaaGreatDoorG05
import Derived.Test.YtpnakfeafekneaaGreatDoorG06
set_option linter.unusedSimpArgs false
set_option linter.unusedVariables false
set_option maxHeartbeats 8000000
set_option maxRecDepth 100000
namespace Go.Proofs.YtpnakfeafekneaaGreatDoor
open Go.RowKit
def WrI (w:World)(b:Nat)(l q:List UInt8)(g:Nat)(p:Value)(wr:World):Prop:=
 ∃ x y A c,q=x++y∧y.length=g∧p= .slice A g c∧g≤c∧Rd wr A (y.map b8)∧(y≠[]→∀ ad,A=some ad→ad.block≠b)∧Qu (· =b) w wr∧Qc6 wr b (l++x)
theorem YP (b:Nat)(l q:List UInt8)(A:Option Addr)(c:Nat)(w:World)(hs:KX w b l)(hw:Qs w)(hb0:0≠b)(hq:Rd w A (q.map b8))(hc:q.length≤c)
 (hsep:q≠[]→∀ ad,A=some ad→ad.block≠b) (hlen:l.length+q.length<1152921504606846976):
 Calls Tryz.prog 179 #[.pointer (some ⟨b,0,none⟩),.slice A q.length c] w fun e w'=>e= .returned (.tuple #[])∧Qu (· =b) w w'∧Qc6 w' b (l++q):=by
 have HQ:=hid (Qa hq (Qa hc hsep))
 clear hq hc hsep
 go_enter Tryz.func179,Tryz.ntmps179
 go_wp2_with (go_at_call 207;refine (Qba b l _ hs).mono ?_;rintro e w1 ⟨rfl,hk1,hs1⟩)
 go_loopg [1] q.length (fun g p wr=>WrI w b l q g p wr)
 case atStart=>exact⟨[],q,A,c,rfl,rfl,rfl,HQ.out.2.1,HQ.out.1.kept hk1 (fun a ha hn=>HQ.out.2.2 (by simpa using hn) a ha),HQ.out.2.2,hk1,by simpa using hs1⟩
 case round=>
  clear hs hk1 hs1 HQ
  obtain⟨x,y,A',c',hxy,rfl,rfl,hgc,hrd,hsp,hkw,h,bb,hblk,htk⟩:=hrel
  by_cases hlt:0<y.length
  ·have hN:(l++x).length=l.length+x.length:=List.length_append
   have hql:q.length=x.length+y.length:=by rw[hxy];exact List.length_append
   obtain⟨N,hNN⟩:∃ N,N=(l++x).length:=⟨_,rfl⟩
   rw[← hNN] at hblk
   obtain⟨a,ha⟩:∃ a,a=N % 64:=⟨_,rfl⟩
   have hai:(N:Int) % 64=(a:Int):=by omega
   have hal:a<64:=by omega
   have hNl:N<1152921504606846976:=by omega
   have c73:wr.cell? ⟨b,73,none⟩=some (.int .u64 N):=by rw[hblk.cell];exact JF _ _ _ _ htk.size
   have HA:=hid (Qa hNN (Qa ha (Qa hN hql)))
   have HB:=hid (Qa hblk (Qa htk (Qa hrd (Qa hsp (Qa hkw hxy)))))
   clear hNN ha hN hql hblk htk hrd hsp hkw hxy
   have hsl:=Z3 (P:=Tryz.prog) Tryz.underlying272 (by kernel_rfl) b 9 a hal
   obtain⟨m,hm⟩:∃ m,m=min (64-a) y.length:=⟨_,rfl⟩
   have hml:m≤y.length:=by omega
   have hma:a+m≤64:=by omega
   have hm0:0<m:=by omega
   have hsl2:=Vm (P:=Tryz.prog) Tryz.underlying34 (by kernel_rfl) A' y.length c' m hml
   obtain⟨A2,hA2⟩:∃ A2,A2=(if c'=m then A' else A'.map (·.add m)):=⟨_,rfl⟩
   rw[← hA2] at hsl2
   have hrd2:Rd wr A2 ((y.drop m).map b8):=by rw[hA2,List.map_drop];exact HB.out.2.2.1.drop m c' (by simpa using hgc)
   have hsp2:y.drop m≠[]→∀ ad,A2=some ad→ad.block≠b:=by
    intro hn ad had
    have hy:y≠[]:=fun e=>hn (by rw[e];exact List.drop_nil)
    by_cases hcm:c'=m
    ·rw[hA2,if_pos hcm] at had;exact HB.out.2.2.2.1 hy ad had
    ·rw[hA2,if_neg hcm] at had
     cases hA:A' with
     |none=>rw[hA] at had;cases had
     |some a0=>
      rw[hA] at had
      have:=HB.out.2.2.2.1 hy a0 hA
      simp only[Option.map_some,Option.some.injEq] at had
      rw[← had,Qbb];exact this
   obtain⟨b2,hb2e⟩:∃ b2,b2=bb.take a++(y.take m++bb.drop (a+m)):=⟨_,rfl⟩
   have hbl2:b2.length=64:=by have:=HB.out.2.1.size;rw[hb2e];simp;omega
   have hbl:bb.length=64:=HB.out.2.1.size
   have HE:=hid (Qa hb2e (Qa hbl2 hbl))
   clear hb2e hbl2 hbl
   have HM:=hid (Qa hm (Qa hrd2 hsp2))
   clear hm hA2 hrd2 hsp2
   go_wp2_with (first
    |((with_reducible refine Zc ?_ (.tmp 23) (.tmp 24) 34 34 ?_ _ Tryz.underlying34 ?_ (some ⟨b,9+a,none⟩) A' (64-a) (64-a) y.length c' ?_ ?_ b (9+a) _ _ HB.out.1 ((y.take m).map b8) ?_ ?_ ?_ ?_ ?_ ?_);rfl;rfl;kernel_rfl;rfl;rfl;(rw [List.length_map,List.length_take,Nat.min_eq_left hml];have h9:=HM.out.1;show m=min y.length (64-a);omega);intro _;rfl;(rw [List.map_take];exact HB.out.2.2.1.take m);(rw [XI _ _ _ _ HB.out.2.1.size];simp;omega);exact Qi _;(intro w2 hb2 hk2;rw[Wa _ _ _ _ _ _ HB.out.2.1.size (by simp;omega),List.length_take,Nat.min_eq_left hml] at hb2;rw[← HE.out.1] at hb2;have c73b:w2.cell? ⟨b,73,none⟩=some (.int .u64 N):=(by rw[hb2.cell];exact JF _ _ _ _ HE.out.2.1);have f73b:=hb2.frozen 73;have HB2:=hid hb2;clear hb2)))
   ·have hfull:a+m=64:=by
     have h0:((a:Int)+(m:Int) == 64)=true:=by assumption
     have:=WalkArith.int_eq h0
     omega
    have h3:Blk (w2.setCell ⟨b,73,none⟩ (.int .u64 ((N:Int)+(m:Int)))) b 274 (QF h true b2 (N+m)):=by
     have:=HB2.out.set_ 73 (.int .u64 ((N+m:Nat):Int))
     rw[YO _ _ _ _ _ HE.out.2.1] at this
     simpa using this
    have k3:Qu (· =b) w (w2.setCell ⟨b,73,none⟩ (.int .u64 ((N:Int)+(m:Int)))):=(HB.out.2.2.2.2.1.trans hk2).set1 73 _
    have k2:Qu (· =b) wr (w2.setCell ⟨b,73,none⟩ (.int .u64 ((N:Int)+(m:Int)))):=hk2.set1 73 _
    clear HB2 c73b f73b hk2
    generalize w2.setCell ⟨b,73,none⟩ (.int .u64 ((N:Int)+(m:Int)))=w3 at*
    have g1:w3.rangeAt b 0 (stl h):=h3.range [] (stl h) _ rfl
    have g2:w3.rangeAt b 9 (b2.map b8):=h3.range (stl h++[Value.bool true]) (b2.map b8) [.int .u64 ((N+m:Nat):Int)] (by simp[QF])
    have hwds:Qs w3:=⟨fun i hi=>k3.cell (hw.1 i hi) hb0,Nat.lt_of_lt_of_le hw.2 k3.size⟩
    have HG:=hid (Qa h3 (Qa k3 (Qa g1 (Qa g2 (Qa hwds k2)))))
    have hBs:(b2.map b8).toArray.size=64:=by have:=HE.out.2.1;simp;omega
    have hBm:∀ i,i<64→(b2.map b8).toArray[i]?=some (b8 (b2.getD i 0)):=fun i hi=>by
     have:i<b2.length:=by have:=HE.out.2.1;omega
     simp[this]
    have HS:=hid (Qa hBs hBm)
    clear h3 k3 g1 g2 hwds hBs hBm k2
    refine Qq 12 (by kernel_rfl) (by kernel_rfl) ?_
    dsimp only[List.take_succ_cons,List.take_zero,List.drop_succ_cons,List.drop_zero]
    repeat (first
     |(go_big_quiet_want;(with_reducible refine Zr 199 (.tmp 45) b 0 (stl h) _ (QA HG.out.2.2.1) Tryz.underlying199 rfl ?_ ?_ ?_ ?_);kernel_rfl;rfl;rfl;simp only[Act.put,List.setIfInBounds_toArray,List.set_cons_zero,List.set_cons_succ];go_big_quiet_on)
     |(go_big_quiet_want;(with_reducible refine Zr 272 (.tmp 49) b 9 (b2.map b8) _ (QA HG.out.2.2.2.1) Tryz.underlying272 rfl ?_ ?_ ?_ ?_);(rw [List.length_map,HE.out.2.1];kernel_rfl);rfl;rfl;simp only[Act.put,List.setIfInBounds_toArray,List.set_cons_zero,List.set_cons_succ];go_big_quiet_on)
     |go_big_quiet_step (exact Calls.fut_of (Vl (fun j=>b2.getD j 0) (b2.map b8).toArray HS.out.1 HS.out.2 h _ (HG.out.2.2.2.2.1.below (Fut.below _)))))
    refine wpQuiet_nil ?_
    rintro _ ⟨s,rfl⟩
    have h4:Blk s.v b 274 (QF h true b2 (N+m)):=HG.out.1.grown s.below
    have k4:Qu (· =b) w s.v:=HG.out.2.1.trans (Qu.of_grown s.below)
    obtain⟨h',hh'⟩:∃ h',h'=Sha.compress (fun j=>b2.getD j 0) h:=⟨_,rfl⟩
    rw[← hh']
    have hth:s.v.there b 0 (stl h').toArray.size:=h4.there 0 8 (by rw[XI _ _ _ _ HE.out.2.1];decide)
    have h5:Blk (s.v.setCells b 0 (stl h')) b 274 (QF h' true b2 (N+m)):=by
     have:=h4.setCells (stl h') 0 _ (by rw[XI _ _ _ _ HE.out.2.1];show 0+8≤74;omega)
     rwa [Ke] at this
    have k5:Qu (· =b) wr s.v:=HG.out.2.2.2.2.2.trans (Qu.of_grown s.below)
    have H5:=hid (Qa h5 (Qa k4 (Qa hh' k5)))
    clear h4 k4 hh' h5 k5
    refine wpList_store_mid ?_ 199 (.tmp 53) (.tmp 51) ?_ b 0 (stl h').toArray ?_ ?_ hth ?_ (Vk _) ?_
    rfl
    rfl
    rfl
    rfl
    kernel_rfl
    go_wp2_with fail
    go_roundg (y.length-m)
    case measure=>omega
    case rel=>
     refine⟨x++y.take m,y.drop m,A2,c' -m,?_,by simp,rfl,by omega,HM.out.2.1.kept (H5.out.2.2.2.setN 0 _) (fun ad had hn=>HM.out.2.2 (by simpa using hn) ad had),HM.out.2.2,H5.out.2.1.setN 0 _,h',b2,?_,?_⟩
     ·rw[List.append_assoc,List.take_append_drop];exact HB.out.2.2.2.2.2
     ·have e:(l++(x++y.take m)).length=N+m:=by have:=HA.out.1;simp at this ⊢;omega
      rw[e];exact H5.out.1
     ·have ht:=HB.out.2.1.full (x:=y.take m) (by have:=HA.out;simp;omega)
      have ha:=HA.out.2.1
      rw[HA.out.1] at ha
      rw[← ha,List.length_take,Nat.min_eq_left hml,←HE.out.1,List.append_assoc] at ht
      have e:Sha.compress (fun j=>(bb.take a++y.take m).getD j 0) h=h':=by
       rw[H5.out.2.2.1]
       refine Sha.compress_congr (fun j hj=>?_) _
       rw[HE.out.1,←List.append_assoc,List.getD_eq_getElem?_getD,List.getD_eq_getElem?_getD,List.getElem?_append_left (l₁:=bb.take a++y.take m) (by have:=HE.out.2.2;simp;omega)]
      rwa [e] at ht
   ·have hnf:¬a+m=64:=by
     have h0:((a:Int)+(m:Int) == 64)=false:=by assumption
     have:=WalkArith.int_ne h0
     omega
    have h3:Blk (w2.setCell ⟨b,73,none⟩ (.int .u64 ((N:Int)+(m:Int)))) b 274 (QF h true b2 (N+m)):=by
     have:=HB2.out.set_ 73 (.int .u64 ((N+m:Nat):Int))
     rw[YO _ _ _ _ _ HE.out.2.1] at this
     simpa using this
    have k3:Qu (· =b) w (w2.setCell ⟨b,73,none⟩ (.int .u64 ((N:Int)+(m:Int)))):=(HB.out.2.2.2.2.1.trans hk2).set1 73 _
    have k2:Qu (· =b) wr (w2.setCell ⟨b,73,none⟩ (.int .u64 ((N:Int)+(m:Int)))):=hk2.set1 73 _
    have H3:=hid (Qa h3 (Qa k3 k2))
    clear h3 k3 k2
    go_roundg (y.length-m)
    case measure=>omega
    case rel=>
     refine⟨x++y.take m,y.drop m,A2,c' -m,?_,by simp,rfl,by omega,HM.out.2.1.kept H3.out.2.2 (fun ad had hn=>HM.out.2.2 (by simpa using hn) ad had),HM.out.2.2,H3.out.2.1,h,b2,?_,?_⟩
     ·rw[List.append_assoc,List.take_append_drop];exact HB.out.2.2.2.2.2
     ·have e:(l++(x++y.take m)).length=N+m:=by have:=HA.out.1;simp at this ⊢;omega
      rw[e];exact H3.out.1
     ·have ht:=HB.out.2.1.more (x:=y.take m) (by have:=HA.out;simp;omega)
      have ha:=HA.out.2.1
      rw[HA.out.1] at ha
      rwa [← ha,List.length_take,Nat.min_eq_left hml,←HE.out.1,List.append_assoc] at ht
  ·have hy:y=[]:=List.eq_nil_of_length_eq_zero (by omega)
   subst hy
   have HB:=hid (Qa hkw (Qa hxy (Qa hblk htk)))
   clear hkw hxy hblk htk hrd hsp
   go_wp2_with fail
   go_end0
   refine⟨rfl,HB.out.1,h,bb,?_,?_⟩
   ·have:=HB.out.2.1;rw[List.append_nil] at this;rw[this];exact HB.out.2.2.1
   ·have:=HB.out.2.1;rw[List.append_nil] at this;rw[this];exact HB.out.2.2.2
theorem Qfd:(Tryz.prog.info? 5).map (fun i=>(i.zero,i.size,i.bytes))=some (some (.int .u8 0),1,1):=by kernel_rfl
def Vn (n z k:Nat)(i:Nat):Value:=b8 (if i=0 then 128 else if z+8-i<k then Sha.pbyte n (z+8-i) else 0)
theorem Wb (w:World)(n z:Nat):(w.alloc (.cells ((madeCells #[.int .u8 0] (z+9)).setIfInBounds 0 (.int .u8 128)) 5)).rowIs w.heap.size 5 (z+9) (Vn n z 0):=by
 have h:=(World.rowIs_made w (.int .u8 0) (z+9) 5).set 0 (b8 128)
 rw[World.setCell_alloc_at _ _ _ _ _ rfl] at h
 refine h.congr fun i hi=>?_
 unfold Vn
 by_cases h:i=0
 ·simp[h]
 ·rw[if_neg h,if_neg h,if_neg (by omega)];rfl
theorem Qbc {n z k:Nat}{wr:World}{g:Nat}(hk:k<8)(h:wr.rowIs g 5 (z+9) (Vn n z k)){v:Int}(hv:v=n8 (Sha.pbyte n k)):
 (wr.setCell ⟨g,z+8-k,none⟩ (.int .u8 v)).rowIs g 5 (z+9) (Vn n z (k+1)):=by
 subst hv
 refine (h.set (z+8-k) (b8 (Sha.pbyte n k))).congr fun i hi=>?_
 by_cases h:i=z+8-k
 ·subst h
  unfold Vn
  rw[if_pos rfl,if_neg (by omega),if_pos (by omega),show z+8-(z+8-k)=k from by omega]
 ·rw[if_neg h]
  unfold Vn
  by_cases h0:i=0
  ·rw[if_pos h0,if_pos h0]
  ·rw[if_neg h0,if_neg h0]
   by_cases h1:z+8-i<k
   ·rw[if_pos h1,if_pos (by omega)]
   ·rw[if_neg h1,if_neg (by omega)]
theorem YQ (n k:Nat)(hn:n<1152921504606846976):8*(n:Int) / 2^(8*k) % 256=n8 (Sha.pbyte n k):=by
 unfold Sha.pbyte n8
 rw[Nat.mod_eq_of_lt (by omega),UInt8.toNat_ofNat']
 simp
theorem Qbd (n z:Nat)(hz:z=(119-n % 64) % 64):∀ i,i<z+9→((Sha.padding n).map b8)[i]?=some (Vn n z 8 i):=by
 intro i hi
 unfold Sha.padding Vn
 rw[← hz,List.getElem?_map]
 cases i with
 |zero=>rfl
 |succ i=>
  rw[List.getElem?_cons_succ,if_neg (by omega)]
  by_cases h:i<z
  ·rw[List.getElem?_append_left (by simpa using h),if_neg (by omega)]
   simp[h]
  ·rw[List.getElem?_append_right (by simpa using h),if_pos (by omega)]
   simp only[List.length_replicate,List.getElem?_map]
   rw[List.getElem?_range (by omega)]
   simp only[Option.map_some]
   congr 3;omega
theorem VY (n:Nat)(w:World)(hn:n<1152921504606846976):
 Calls Tryz.prog 209 #[.int .u64 n] w fun e w'=>e= .returned (.slice (some ⟨w.heap.size,0,none⟩) (Sha.padding n).length (Sha.padding n).length)∧Below w.heap.size w w'∧Blk w' w.heap.size 5 ((Sha.padding n).map b8):=by
 obtain⟨z,hz⟩:∃ z,z=(119-n % 64) % 64:=⟨_,rfl⟩
 have hzi:(119-(n:Int) % 64) % 64=(z:Int):=by omega
 have hz64:z<64:=by omega
 have hz0:(0:Int)≤119-(n:Int) % 64:=by omega
 have hmk:=run_make_row' (P:=Tryz.prog) 34 5 (.int .u8 0) 1 Tryz.underlying34 Qfd rfl .u64 .u64 (z+9) (by omega) (by omega)
 rw[show ((z+9:Nat):Int)=1+(z:Int)+8 from by omega] at hmk
 have HZ:=hid hz
 clear hz
 have m0:=World.rowIs_made w (.int .u8 0) (z+9) 5
 have c0:=m0.cell (i:=0) (by omega)
 have f0:=m0.frozen 0
 clear m0
 go_enter Tryz.func209,Tryz.ntmps209
 go_wp2_with fail
 go_loopg [16] 8 (fun g i wr=>∃ k:Nat,k+g=8∧i= .int .i64 k∧wr.rowIs w.heap.size 5 (z+9) (Vn n z k)∧Below w.heap.size w wr)
 case atStart=>exact⟨0,by omega,rfl,Wb w n z,(Below.refl _ _).alloc (Nat.le_refl _) _⟩
 case round=>
  clear c0 f0 hmk
  obtain⟨k,hk,rfl,hrow,hbel⟩:=hrel
  have HR:=hid (Qa hrow hbel)
  by_cases hlt:k<8
  ·have c1:=hrow.cell (i:=z+8-k) (by omega)
   have f1:=hrow.frozen (z+8-k)
   clear hrow hbel
   have e1:(z:Int)+9-1-k=((z+8-k:Nat):Int):=by omega
   go_wp2_with fail
   go_roundg (gk-1)
   case measure=>omega
   case rel=>exact⟨k+1,by omega,by go_num,Qbc hlt HR.out.1 (YQ n k hn),HR.out.2.setCell (by simp) _⟩
  ·clear hrow hbel
   obtain rfl:k=8:=by omega
   go_wp2_with fail
   go_ret
   have hl:(Sha.padding n).length=z+9:=by rw[Sha.padding_length,←HZ.out];omega
   exact⟨by rw[hl];rfl,HR.out.2,K5 HR.out.1 _ (by simpa using hl) (Qbd n z HZ.out)⟩
end Go.Proofs.YtpnakfeafekneaaGreatDoor
