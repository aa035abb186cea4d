/- Part 29 of this proof. -/
import Derived.Test.YtpnakfeafekneaaGreatDoorG20
import Derived.Test.YtpnakfeafekneaaGreatDoorG28
set_option linter.unusedSimpArgs false
set_option linter.unusedVariables false
set_option maxHeartbeats 8000000
set_option maxRecDepth 100000
namespace Go.Proofs.YtpnakfeafekneaaGreatDoor
open Go.RowKit
theorem Yr (x:Int)(w:World):Calls Tryz.prog 14 #[.int .i64 x] w fun e w'=>e= .returned (.bool (if 1≤x∧x≤32 then true else false))∧w=w':=by
 by_cases h1:1≤x
 ·by_cases h2:x≤32
  ·have hd:(if 1≤x∧x≤32 then true else false)=true:=if_pos ⟨h1,h2⟩
   rw[hd];clear hd
   go_enter Tryz.func14,Tryz.ntmps14
   go_wp2_with fail
   go_ret
   exact⟨rfl,rfl⟩
  ·have hd:(if 1≤x∧x≤32 then true else false)=false:=if_neg (fun h=>h2 h.2)
   rw[hd];clear hd
   go_enter Tryz.func14,Tryz.ntmps14
   go_wp2_with fail
   go_ret
   exact⟨rfl,rfl⟩
 ·have hd:(if 1≤x∧x≤32 then true else false)=false:=if_neg (fun h=>h1 h.1)
  rw[hd];clear hd
  go_enter Tryz.func14,Tryz.ntmps14
  go_wp2_with fail
  go_ret
  exact⟨rfl,rfl⟩
def Nb (w:World)(l:List UInt8)(e:Ending)(w':World):Prop:=∃ A c n,l.length=n∧e= .returned (.slice A n c)∧Below w.heap.size w w'∧w'.ownsRow w.heap.size 5 1 (.slice A n c) n (l.map b8)
theorem QU {w:World}{B:Nat}{t:TypeId}{s:Nat}{A:Option Addr}{n c k:Nat}{xs:List Value}(h:w.ownsRow B t s (.slice A n c) k xs):Rd w A xs∧n≤c:=by
 obtain⟨A',c',e,h1,h2⟩:=QC h
 cases e
 exact⟨h1,h2⟩
theorem Uu (k:Nat)(hk:k<1099511627776)(w:World):(Instr.makeSlice 34 (.int .i64 0) (.int .i64 k)).run Tryz.prog w= .ok (.slice (some ⟨w.heap.size,0,none⟩) 0 k) (w.alloc (.cells (List.replicate k (b8 0)).toArray 5)):=by
 obtain⟨i,hi,hz,hsize,hby⟩:=info_parts JP
 have:=run_make (P:=Tryz.prog) w 34 5 i (.int .u8 0) Tryz.underlying34 hi hz .i64 .i64 0 k (by omega) (by omega) (by rw[hby];omega) (by omega)
 rw[this]
 simp only[Int.toNat_natCast,hsize,Qaw]
 rfl
theorem Qax (w:World)(k:Nat)(hk:k<1099511627776)(B:Nat)(hB:B≤w.heap.size):(w.alloc (.cells (List.replicate k (b8 0)).toArray 5)).ownsRow B 5 1 (.slice (some ⟨w.heap.size,0,none⟩) 0 k) 0 []:=
 ⟨rfl,.inr ⟨_,k,_,rfl,hB,heap_alloc_new _ _,Nat.zero_le _,by unfold maxLen;omega,by simp,by simp⟩⟩
theorem XV {ops:Array Oper}{rest:List Oper}{o:Oper}{a:Act}{w w0:World}{Q:Exit→Act→World→Prop}(s x:Operand){base n:Nat}{v:Value}{l:List UInt8}(hown:w.ownsRow base 5 1 v n (l.map b8))(A:Option Addr)(m c N:Nat)(hN:N=n+m)(p:List UInt8)(hm:p.length=m)(hr:Rd w A (p.map b8))
 (hlen:n+m<70368744177664) (hbl:Below base w0 w) (hbase:base≤w.heap.size)
 (hgd:o.guard=none) (ho:o.op= .call {callee:= .builtin .append,args:= #[s,x],argTypes:= #[34,34]}) (hs:a.eval s=v) (hx:a.eval x= .slice A m c)
 (h:∀ A' c' w',w'.ownsRow base 5 1 (.slice A' N c') N ((l++p).map b8)→Below base w0 w'→wpList Tryz.prog ops Q rest (a.put o.dst (.slice A' N c')) w'):wpList Tryz.prog ops Q (o :: rest) a w:=by
 subst hN
 refine Q1 s x 34 Tryz.underlying34 JP rfl (by decide) hown m c (by simp[hm]) hr (Qi p) (by unfold maxLen;omega) (by omega) hbase hgd ho hs hx ?_
 intro v' w' h1 h2 _ _
 obtain⟨A',c',rfl,_,_⟩:=QC h1
 refine h A' c' w' ?_ (QB hown hbl hbase h2)
 rw[List.map_append];exact h1
theorem Xv (A1:Option Addr)(n1 c1:Nat)(l1:List UInt8)(A2:Option Addr)(n2 c2:Nat)(l2:List UInt8)(w:World)(hn1:l1.length=n1)(hn2:l2.length=n2)(h1:Rd w A1 (l1.map b8))(h2:Rd w A2 (l2.map b8))(hl:n1+n2<1099511627776):
 Calls Tryz.prog 148 #[.slice A1 n1 c1,.slice A2 n2 c2] w (Nb w (l1++l2)):=by
 obtain⟨N,hN⟩:∃ N,N=n1+n2:=⟨_,rfl⟩
 have hw:IntKind.i64.wrap ((n1:Int)+(n2:Int))=(N:Int):=by rw[IntKind.wrap_i64];omega
 have hmk:=Uu N (by omega)
 have hown:=Qax w N (by omega) w.heap.size (Nat.le_refl _)
 have hbl:=Qb w (.cells (List.replicate N (b8 0)).toArray 5)
 rw[List.toArray_replicate] at hbl hown
 have HH:=hid (Qa hn1 (Qa hn2 (Qa h1 (Qa h2 (Qa hl (Qa hown (Qa hbl hN)))))))
 clear hn1 hn2 h1 h2 hl hown hbl hN
 go_enter Tryz.func148,Tryz.ntmps148
 go_wp2_with (first
  |((with_reducible refine XV (l:=[]) (.tmp 12) (.tmp 13) HH.out.2.2.2.2.2.1 A1 n1 c1 n1 (Nat.zero_add n1).symm l1 HH.out.1 (HH.out.2.2.1.grown HH.out.2.2.2.2.2.2.1) (by have:=HH.out.2.2.2.2.1;omega) HH.out.2.2.2.2.2.2.1 HH.out.2.2.2.2.2.2.1.size ?_ ?_ ?_ ?_ ?_);rfl;rfl;rfl;rfl
    intro A3 c3 w3 ho3 hb3
    have H3:=hid (Qa ho3 hb3)
    clear ho3 hb3)
  |((with_reducible refine XV (.tmp 15) (.tmp 16) H3.out.1 A2 n2 c2 (n1+n2) rfl l2 HH.out.2.1 (HH.out.2.2.2.1.grown H3.out.2) (by have:=HH.out.2.2.2.2.1;omega) H3.out.2 H3.out.2.size ?_ ?_ ?_ ?_ ?_);rfl;rfl;rfl;rfl
    intro A4 c4 w4 ho4 hb4
    have H4:=hid (Qa ho4 hb4)
    clear ho4 hb4))
 go_ret
 exact⟨A4,c4,_,by rw[List.length_append,HH.out.1,HH.out.2.1],rfl,H4.out.2,H4.out.1⟩
theorem Qd0 (v:Nat):(v:Int) % 128+128=n8 (Wi.hi7 v):=by
 unfold n8 Wi.hi7
 rw[UInt8.toNat_ofNat']
 omega
theorem Vb (v:Nat)(w:World)(hv:v<18446744073709551616):Calls Tryz.prog 193 #[.int .u64 v] w (Nb w (Wi.uvar v)):=by
 have hvl:=Wi.uvar_length 9 v (by omega)
 have HV:=hid hv
 clear hv
 go_enter Tryz.func193,Tryz.ntmps193
 go_wp2_with fail
 go_loopg [0,3] v (fun g s0 s3 wr=>∃ x A c n,s0= .int .u64 g∧s3= .slice A n c∧x.length=n∧Wi.uvar v=x++Wi.uvar g∧wr.ownsRow w.heap.size 5 1 (.slice A n c) n (x.map b8)∧Below w.heap.size w wr∧g≤v)
 case atStart=>exact⟨[],none,0,0,rfl,rfl,rfl,rfl,World.ownsRow_nil _ _ _ _,Below.refl _ _,Nat.le_refl _⟩
 case round=>
  obtain⟨x,A,c,n,rfl,rfl,hn,hx,ho,hb,hgv⟩:=hrel
  have hxl:n≤(Wi.uvar v).length:=by rw[hx];simp[hn]
  have hb2:=gro (Below.refl _ _) (Qb wr (.cells #[b8 (Wi.lo7 gk)] 5))
  have HI:=hid (Qa hn (Qa hx (Qa ho hb)))
  clear hn hx ho hb hb2
  by_cases hlt:gk<128
  ·have hv:=Qc9 gk hlt
   have hown:=Qg HI.out.2.2.1 (Qb wr (.cells #[b8 (Wi.lo7 gk)] 5))
   have hbl:=hid (gro HI.out.2.2.2 (Qb wr (.cells #[b8 (Wi.lo7 gk)] 5)))
   have HO:=hid hown
   clear hown
   go_wp2_with (
    (rw [hv]
     (with_reducible refine XV (.tmp 15) (.tmp 18) HO.out _ 1 1 (n+1) rfl [Wi.lo7 gk] rfl (Xt wr _) (by omega) hbl.out hbl.out.size ?_ ?_ ?_ ?_ ?_);rfl;rfl;rfl;rfl
     intro A3 c3 w3 ho3 hb3
     have H3:=hid (Qa ho3 hb3)
     clear ho3 hb3))
   go_ret
   exact⟨A3,c3,_,by rw[HI.out.2.1,Wi.uvar_low gk hlt,List.length_append,HI.out.1];rfl,rfl,H3.out.2,by rw[HI.out.2.1,Wi.uvar_low gk hlt];exact H3.out.1⟩
  ·have hv:=Qd0 gk
   have hown:=Qg HI.out.2.2.1 (Qb wr (.cells #[b8 (Wi.hi7 gk)] 5))
   have hbl:=hid (gro HI.out.2.2.2 (Qb wr (.cells #[b8 (Wi.hi7 gk)] 5)))
   have HO:=hid hown
   clear hown
   go_wp2_with (
    ((try rw[hv]);(with_reducible refine XV (.tmp 6) (.tmp 11) HO.out _ 1 1 (n+1) rfl [Wi.hi7 gk] rfl (Xt wr _) (by omega) hbl.out hbl.out.size ?_ ?_ ?_ ?_ ?_);rfl;rfl;rfl;rfl
     intro A3 c3 w3 ho3 hb3
     have H3:=hid (Qa ho3 hb3)
     clear ho3 hb3))
   go_roundg (gk / 128)
   case measure=>omega
   case rel=>
    have hgk:gk<18446744073709551616:=by have:=HV.out;omega
    refine⟨x++[Wi.hi7 gk],A3,c3,n+1,by rw[IntKind.wrap_u64];congr 1;omega,rfl,by simp[HI.out.1],?_,H3.out.1,H3.out.2,by omega⟩
    rw[List.append_assoc,List.singleton_append,←Wi.uvar_high gk hlt];exact HI.out.2.1
theorem Qay {w:World}{g B k:Nat}{l:List UInt8}(h:Blk w g 5 (l.map b8))(hk:l.length=k)(hB:B≤g)(hm:k<1099511627776):w.ownsRow B 5 1 (.slice (some ⟨g,0,none⟩) k k) k (l.map b8):=
 ⟨by simp[hk],.inr ⟨g,k,_,rfl,hB,h,Nat.le_refl _,by unfold maxLen;omega,by simp[hk],by rw[List.toList_toArray,List.take_of_length_le (by simp[hk])]⟩⟩
theorem Jt (A:Option Addr)(n c:Nat)(l:List UInt8)(w:World)(hn:l.length=n)(h:Rd w A (l.map b8))(hl:n<549755813888):
 Calls Tryz.prog 149 #[.slice A n c] w (Nb w (Wi.blob l)):=by
 have hul:=Wi.uvar_length 9 n (by omega)
 have HH:=hid (Qa hn (Qa h hul))
 clear hn h hul
 go_enter Tryz.func149,Tryz.ntmps149
 go_wp2_with (first
  |(go_at_call 148
    refine (Xv A1 n1 c1 (Wi.uvar n) A n c l w1 H1.out.1 HH.out.1 (QU H1.out.2.2).1 (HH.out.2.1.grown H1.out.2.1) (by have:=HH.out.2.2;have:=H1.out.1;omega)).mono ?_
    rintro e w2 ⟨A2,c2,n2,hn2,rfl,hb2,ho2⟩
    have H2:=hid (Qa hn2 (Qa hb2 ho2))
    clear hn2 hb2 ho2)
  |(go_at_call 193
    refine (Vb n _ (by omega)).mono ?_
    rintro e w1 ⟨A1,c1,n1,hn1,rfl,hb1,ho1⟩
    have H1:=hid (Qa hn1 (Qa hb1 ho1))
    clear hn1 hb1 ho1))
 go_ret
 have e:Wi.blob l=Wi.uvar n++l:=by unfold Wi.blob;rw[HH.out.1]
 exact⟨A2,c2,n2,by rw[e];exact H2.out.1,rfl,gro H1.out.2.1 H2.out.2.1,by rw[e];exact Xi H2.out.2.2 (fun k hk=>Nat.le_trans H1.out.2.1.size ((H2.out.2.2.lt k hk).1))⟩
def WdF (v k g:Nat)(i:Nat):Value:=if g≤i then b8 (Wi.wbyte v (k-1-i)) else b8 0
theorem Qb7 {w:World}{b v k g:Nat}(h:w.rowIs b 5 k (WdF v k (g+1)))(hg:g<k):(w.setCell ⟨b,g,none⟩ (b8 (Wi.wbyte v (k-(g+1))))).rowIs b 5 k (WdF v k g):=by
 rw[show k-(g+1)=k-1-g from by omega]
 refine (h.set g _).congr fun i hi=>?_
 unfold WdF
 by_cases h1:i=g
 ·subst h1;rw[if_pos rfl,if_pos (Nat.le_refl _)]
 ·rw[if_neg h1]
  by_cases h2:g≤i
  ·rw[if_pos h2,if_pos (by omega)]
  ·rw[if_neg h2,if_neg (by omega)]
theorem Qd1 (v k g:Nat)(hg:g<k):((v / 256^(k-1-g):Nat):Int) % 256=n8 (Wi.wbyte v (k-1-g)):=by
 rw[← YT,show (256:Nat)=2^8 from rfl,←Nat.pow_mul]
 push_cast
 rfl
theorem Qb8 (v k:Nat)(w:World)(hv:v<18446744073709551616)(hk:k≤8):Calls Tryz.prog 214 #[.int .u64 v,.int .i64 k] w (Nb w (Wi.wide v k)):=by
 have hmk:=Yq k (by omega)
 have hrow:(w.alloc (.cells (List.replicate k (b8 0)).toArray 5)).rowIs w.heap.size 5 k (WdF v k k):=Xf (Blk.new w _ (List.replicate k (b8 0))) (by simp) (fun i hi=>by rw[List.getElem?_replicate,if_pos hi];unfold WdF;rw[if_neg (by omega)])
 have hbl:=Qb w (.cells (List.replicate k (b8 0)).toArray 5)
 rw[List.toArray_replicate] at hbl hrow
 have HH:=hid (Qa hrow (Qa hbl hv))
 clear hrow hbl hv
 go_enter Tryz.func214,Tryz.ntmps214
 go_wp2_with fail
 go_loopg [0,6] k (fun g s0 i wr=>g≤k∧i= .int .i64 ((g:Int)-1)∧s0= .int .u64 ((v / 256^(k-g):Nat):Int)∧wr.rowIs w.heap.size 5 k (WdF v k g)∧Below w.heap.size w wr)
 case atStart=>exact⟨Nat.le_refl _,rfl,by simp,HH.out.1,HH.out.2.1⟩
 case round=>
  obtain⟨hgk,rfl,rfl,hr,hb⟩:=hrel
  have HI:=hid (Qa hr hb)
  clear hr hb
  by_cases hlt:0<gk
  ·have h1:(0:Int)≤(gk:Int)-1:=by omega
   have e1:(gk:Int)-1=((gk-1:Nat):Int):=by omega
   obtain⟨g,rfl⟩:∃ g,gk=g+1:=⟨gk-1,by omega⟩
   obtain⟨u,hu⟩:∃ u,u=v / 256^(k-(g+1)):=⟨_,rfl⟩
   rw[← hu]
   have hv:=Qd1 v k g (by omega)
   rw[show k-1-g=k-(g+1) from by omega,←hu] at hv
   have hg2:((g+1:Nat):Int)-1=(g:Int):=by omega
   have c1:=HI.out.1.cell (i:=g) (by omega)
   have f1:=HI.out.1.frozen g
   have hun:u / 256=v / 256^(k-g):=by rw[hu,Nat.div_div_eq_div_mul,←Nat.pow_succ,show (k-(g+1)).succ=k-g from by omega]
   have hul:u<18446744073709551616:=Nat.lt_of_le_of_lt (by rw[hu];exact Nat.div_le_self _ _) HH.out.2.2
   have HU:=hid hun
   clear hun hu e1 h1
   rw[hg2]
   go_wp2_with fail
   go_roundg g
   case measure=>omega
   case rel=>exact⟨by omega,by go_num,by rw[← HU.out,Int.natCast_ediv];rfl,Qb7 HI.out.1 (by omega),HI.out.2.setCell (by simp) _⟩
  ·obtain rfl:gk=0:=by omega
   go_wp2_with fail
   go_ret
   have hbk:Blk wr w.heap.size 5 ((Wi.wide v k).map b8):=K5 HI.out.1 _ (by simp[Wi.wide_length]) (fun i hi=>by unfold WdF Wi.wide;rw[if_pos (Nat.zero_le _)];simp[hi])
   exact⟨_,_,_,Wi.wide_length v k,rfl,HI.out.2,Qay hbk (Wi.wide_length v k) (Nat.le_refl _) (by omega)⟩
theorem J1 {w w':World}(kind:UInt8)(hb:Below (w.alloc (.cells #[b8 kind] 5)).drew.heap.size (w.alloc (.cells #[b8 kind] 5)).drew w'):Rd w' (some ⟨w.heap.size,0,none⟩) ([kind].map b8):=((Xt w kind).grown (w':=(w.alloc (.cells #[b8 kind] 5)).drew) ((Below.refl _ _).drew)).grown hb
theorem WN (x:List Value)(e:Ent)(w:World)(h:Xu w x e)(hk:e.key.length<1048576)(hv:e.val.length<1048576):
 Calls Tryz.prog 101 #[.agg x.toArray] w (Nb w (En.bytes e)):=by
 obtain⟨A1,c1,A2,c2,rfl,h1,h2,h3,h4⟩:=h
 obtain⟨kind,key,val⟩:=e
 simp only at h1 h2 h3 h4 hk hv ⊢
 obtain⟨nk,hnk⟩:∃ nk,key.length=nk:=⟨_,rfl⟩
 obtain⟨nv,hnv⟩:∃ nv,val.length=nv:=⟨_,rfl⟩
 have hul1:=Wi.uvar_length 9 nk (by omega)
 have hul2:=Wi.uvar_length 9 nv (by omega)
 have hbl1:(Wi.blob key).length<1048600:=by unfold Wi.blob;rw[List.length_append,hnk];omega
 have hbl2:(Wi.blob val).length<1048600:=by unfold Wi.blob;rw[List.length_append,hnv];omega
 have hkc:∀ w',Below w.heap.size w w'→Calls Tryz.prog 149 #[.slice A1 nk c1] w' (Nb w' (Wi.blob key)):=fun w' hb=>Jt A1 nk c1 key w' hnk (h1.grown hb) (by omega)
 have hvc:∀ w',Below w.heap.size w w'→Calls Tryz.prog 149 #[.slice A2 nv c2] w' (Nb w' (Wi.blob val)):=fun w' hb=>Jt A2 nv c2 val w' hnv (h2.grown hb) (by omega)
 have HK:=hid hkc
 have HV:=hid hvc
 have HL:=hid (Qa hbl1 hbl2)
 rw[hnk,hnv]
 have hb1:=Blk.new w 36 [b8 kind,.slice A1 nk c1,.slice A2 nv c2]
 have HB0:=hid (Qa hb1 (Qb w (.cells #[b8 kind,.slice A1 nk c1,.slice A2 nv c2] 36)))
 clear hkc hvc h1 h2 h3 h4 hnk hnv hb1 hul1 hul2 hbl1 hbl2 hk hv
 go_enter Tryz.func101,Tryz.ntmps101
 go_upto_region 1 with fail
 refine Qe (fun w'=>Blk w' w.heap.size 36 [b8 kind,.slice A1 nk c1,.slice A2 nv c2]∧Below w.heap.size w w') HB0.out ?_
 rintro w1 ⟨hb1,hbl⟩
 have HS:∀ w',Blk w' w.heap.size 36 [b8 kind,.slice A1 nk c1,.slice A2 nv c2]→w'.cell? ⟨w.heap.size,0,none⟩=some (b8 kind)∧w'.cell? ⟨w.heap.size,1,none⟩=some (.slice A1 nk c1)∧w'.cell? ⟨w.heap.size,2,none⟩=some (.slice A2 nv c2):=fun w' h=>⟨by rw[h.cell];rfl,by rw[h.cell];rfl,by rw[h.cell];rfl⟩
 have hd:Below w1.heap.size w1 w1.drew:=(Below.refl _ _).drew
 have hda:Below w1.heap.size w1 (w1.alloc (.cells #[b8 kind] 5)).drew:=(Qb w1 (.cells #[b8 kind] 5)).trans (Below.refl _ _).drew
 have HT:=hid (Qa HS (Qa hd (Qa hb1 (Qa hbl hda))))
 clear HS hd hb1 hbl HB0 hda
 go_region_held3 (fun w'=>w'.cell? ⟨w.heap.size,0,none⟩=some (b8 kind)∧w'.cell? ⟨w.heap.size,1,none⟩=some (.slice A1 nk c1)∧w'.cell? ⟨w.heap.size,2,none⟩=some (.slice A2 nv c2))
  (first|exact HT.out.1 _ (HT.out.2.2.1.grown HT.out.2.1)|exact HT.out.1 _ (HT.out.2.2.1.grown HT.out.2.2.2.2)|exact HT.out.1 _ (HT.out.2.2.1.grown K4.out.1)|exact HT.out.1 _ (HT.out.2.2.1.grown V4.out.1)|exact HT.out.1 _ (HT.out.2.2.1.grown V4.out.2.2.2)|exact HT.out.1 _ (HT.out.2.2.1.grown H5.out.2.1))
  (first
    |(go_at_call 148
      with_reducible refine Calls.mono (Xv (some ⟨w1.heap.size,0,none⟩) 1 1 [kind] A4 n4 c4 (Wi.blob key) w4 rfl K4.out.2.1 K4.out.2.2.2 K4.out.2.2.1 (by have:=HL.out.1;have:=K4.out.2.1;omega)) ?_
      rintro ee w5 ⟨A5,c5,n5,hn5,rfl,hb5,ho5⟩
      have H5:=hid (Qa hn5 (Qa (gro K4.out.1 hb5) (Qa (QU ho5).1 (Xi ho5 (fun k hk=>Nat.le_trans (gro HT.out.2.2.2.1 K4.out.1).size ((ho5.lt k hk).1))))))
      clear hn5 hb5 ho5)
    |(go_at_call 148
      with_reducible refine Calls.mono (Xv (some ⟨w4.heap.size,0,none⟩) 1 1 [kind] A4 n4 c4 (Wi.blob key) _ rfl V4.out.2.1 (Xt w4 kind) (V4.out.2.2.1.grown (Qb w4 _)) (by have:=HL.out.1;have:=V4.out.2.1;omega)) ?_
      rintro ee w5 ⟨A5,c5,n5,hn5,rfl,hb5,ho5⟩
      have H5:=hid (Qa hn5 (Qa (gro V4.out.2.2.2 hb5) (Qa (QU ho5).1 (Xi ho5 (fun k hk=>Nat.le_trans (gro HT.out.2.2.2.1 V4.out.2.2.2).size ((ho5.lt k hk).1))))))
      clear hn5 hb5 ho5)
    |(go_at_call 149
      with_reducible refine Calls.mono (HK.out _ (gro HT.out.2.2.2.1 HT.out.2.2.2.2)) ?_
      rintro ee w4 ⟨A4,c4,n4,hn4,rfl,hb4,ho4⟩
      have K4:=hid (Qa (gro HT.out.2.2.2.2 hb4) (Qa hn4 (Qa (QU ho4).1 (show Rd w4 (some ⟨w1.heap.size,0,none⟩) ([kind].map b8) from J1 kind hb4))))
      clear hn4 hb4 ho4)
    |(go_at_call 149
      with_reducible refine Calls.mono (HK.out _ (gro HT.out.2.2.2.1 HT.out.2.1)) ?_
      rintro ee w4 ⟨A4,c4,n4,hn4,rfl,hb4,ho4⟩
      have V4:=hid (Qa (gro HT.out.2.1 hb4) (Qa hn4 (Qa (QU ho4).1 (gro (gro HT.out.2.1 hb4) (Qb w4 (.cells #[b8 kind] 5))))))
      clear hn4 hb4 ho4))
 all_goals
  obtain⟨y0,y1,y2⟩:=HT.out.1 _ (HT.out.2.2.1.grown H5.out.2.1)
  clear y1
  have hkl:=HL.out.1
  by_cases hk1:kind=1
  ·subst hk1
   go_wp2_with (first
    |(go_at_call 148
      refine (Xv A5 n5 c5 _ A7 n7 c7 (Wi.blob val) w7 H5.out.1 H7.out.1 (H5.out.2.2.1.grown H7.out.2.1) H7.out.2.2 (by have h1:=H5.out.1;have h2:=H7.out.1;have h3:=HL.out.2;rw[List.length_append] at h1;simp only[List.length_singleton] at h1;omega)).mono ?_
      rintro ee w8 ⟨A8,c8,n8',hn8,rfl,hb8,ho8⟩
      have H8:=hid (Qa hn8 (Qa hb8 ho8))
      clear hn8 hb8 ho8)
    |(go_at_call 149
      refine (HV.out _ (gro HT.out.2.2.2.1 H5.out.2.1)).mono ?_
      rintro ee w7 ⟨A7,c7,n7,hn7,rfl,hb7,ho7⟩
      have H7:=hid (Qa hn7 (Qa hb7 (QU ho7).1))
      clear hn7 hb7 ho7))
   go_ret
   refine⟨A8,c8,n8',?_,rfl,gro (gro (gro HT.out.2.2.2.1 H5.out.2.1) H7.out.2.1) H8.out.2.1,?_⟩
   ·rw[← H8.out.1];rfl
   ·exact Xi H8.out.2.2 (fun k hk=>Nat.le_trans (gro (gro HT.out.2.2.2.1 H5.out.2.1) H7.out.2.1).size ((H8.out.2.2.lt k hk).1))
  ·have hf:(n8 kind == 1)=false:=by
    have:n8 kind≠1:=fun h=>hk1 (Ka (by rw[h];rfl))
    simpa using this
   have eb:En.bytes ⟨kind,key,val⟩=[kind]++Wi.blob key:=by unfold En.bytes;simp[hk1]
   have HE:=hid eb
   clear eb hk1
   go_wp2_with fail
   go_ret
   refine⟨A5,c5,n5,?_,rfl,gro HT.out.2.2.2.1 H5.out.2.1,?_⟩
   ·rw[HE.out];exact H5.out.1
   ·rw[HE.out];exact H5.out.2.2.2
theorem Uv (f:Nat→UInt8)(j:Nat)(h:j<8):((List.range 8).map f).take (j+1)=((List.range 8).map f).take j++[f j]:=by
 have hl:j< ((List.range 8).map f).length:=by simpa using h
 rw[List.take_succ_eq_append_getElem hl];simp
theorem Qd2 (n:Nat)(w:World)(hn:n<1152921504606846976):Calls Tryz.prog 124 #[.int .u64 n] w (Nb w (Sha.padding n)):=by
 obtain⟨Z,hZ⟩:∃ Z,Z=(119-n % 64) % 64:=⟨_,rfl⟩
 have hZ64:Z<64:=by omega
 have hq:(n:Int) % 64+Z+9=64∨(n:Int) % 64+Z+9=128:=by omega
 have HZ:=hid hZ
 clear hZ
 have ho:=Qay (Blk.new w 5 [b8 128]) (l:=[128]) (k:=1) rfl (Nat.le_refl _) (by decide)
 have HB:=hid (Qa ho (Qb w (.cells #[b8 128] 5)))
 clear ho
 go_enter Tryz.func124,Tryz.ntmps124
 go_wp2_with fail
 go_loopg [3] Z (fun g s3 wr=>∃ (j:Nat) (A:Option Addr) (c:Nat),j+g=Z∧s3= .slice A (j+1) c∧wr.ownsRow w.heap.size 5 1 (.slice A (j+1) c) (j+1) ((128 :: List.replicate j 0).map b8)∧Below w.heap.size w wr)
 case atStart=>exact⟨0,_,_,by omega,rfl,HB.out.1,HB.out.2⟩
 case round=>
  clear HB
  obtain⟨j,A,c,hj,rfl,ho,hb⟩:=hrel
  have HI:=hid (Qa ho hb)
  clear ho hb
  by_cases hlt:j<Z
  ·have hown:=Qg HI.out.1 (Qb wr (.cells #[.int .u8 0] 5))
   have hbl:=hid (gro HI.out.2 (Qb wr (.cells #[.int .u8 0] 5)))
   have hrd:=hid (show Rd (wr.alloc (.cells #[.int .u8 0] 5)) (some ⟨wr.heap.size,0,none⟩) ([0].map b8) from Xt wr 0)
   have HO:=hid hown
   clear hown
   have hc:((n:Int) % 64+((j:Int)+1)+8) % 64≠0:=by omega
   go_wp2_with (
    ((with_reducible refine XV (.tmp 15) (.tmp 16) HO.out _ 1 1 (j+1+1) rfl [0] rfl hrd.out (by omega) hbl.out hbl.out.size ?_ ?_ ?_ ?_ ?_);rfl;rfl;rfl;rfl
     intro A3 c3 w3 ho3 hb3
     have H3:=hid (Qa ho3 hb3)
     clear ho3 hb3))
   go_roundg (gk-1)
   case measure=>omega
   case rel=>exact⟨j+1,A3,c3,by omega,rfl,by rw[List.replicate_succ'];exact H3.out.1,H3.out.2⟩
  ·obtain rfl:j=Z:=by omega
   have hc:((n:Int) % 64+((j:Int)+1)+8) % 64=0:=by omega
   go_wp2_with fail
   have hc2:=True.intro
   clear hc hc2 hlt hj
   go_loopg [4,3] 8 (fun g i s3 wr=>∃ (k:Nat) (A:Option Addr) (c N:Nat),k+g=8∧N=j+1+k∧i= .int .i64 ((g:Int)-1)∧s3= .slice A N c∧wr.ownsRow w.heap.size 5 1 (.slice A N c) N (((128 :: List.replicate j 0)++((List.range 8).map fun j=>Sha.pbyte n (7-j)).take k).map b8)∧Below w.heap.size w wr)
   case atStart=>exact⟨0,_,_,_,rfl,rfl,rfl,rfl,by simpa using HI.out.1,HI.out.2⟩
   case round=>
    clear HI
    obtain⟨k,A,c,N,hk,hN,rfl,rfl,ho,hb⟩:=hrel
    have hN80:N<80:=by omega
    have HI:=hid (Qa ho (Qa hb hN))
    clear ho hb hN
    by_cases hlt:0<gk
    ·have hg:gk=1∨gk=2∨gk=3∨gk=4∨gk=5∨gk=6∨gk=7∨gk=8:=by omega
     have HT:=hid (Uv (fun j=>Sha.pbyte n (7-j)) k (by omega))
     have hv:n8 (Sha.pbyte n (7-k))=8*(n:Int) / 2^(8*(gk-1)) % 256:=by rw[show 7-k=gk-1 from by omega];exact (YQ n (gk-1) hn).symm
     have hm8:IntKind.u64.wrap (8*(n:Int))=8*(n:Int):=by rw[IntKind.wrap_u64];omega
     obtain⟨x,hx⟩:∃ x,x=Sha.pbyte n (7-k):=⟨_,rfl⟩
     rw[← hx] at hv
     have hown:=Qg HI.out.1 (Qb wr (.cells #[b8 x] 5))
     have hbl:=hid (gro HI.out.2.1 (Qb wr (.cells #[b8 x] 5)))
     have HO:=hid hown
     have HX:=hid hx
     clear hown hx
     rcases hg with rfl|rfl|rfl|rfl|rfl|rfl|rfl|rfl
     all_goals
      have H9:=hid (show 8*(n:Int) / 72057594037927936=8*(n:Int) / 72057594037927936 % 256 by omega)
      have hv2:=hv.symm
      clear hv
      simp only[Nat.sub_self,Nat.mul_zero,Int.pow_zero,Int.ediv_one,Nat.add_one_sub_one,Nat.reduceSub,Nat.reduceMul,Int.reducePow] at hv2
      go_wp2_with (
       ((first|rw[hv2]|rw[H9.out,hv2]|skip);(with_reducible refine XV (.tmp 22) (.tmp 29) HO.out _ 1 1 (N+1) rfl [x] rfl (Xt wr _) (by omega) hbl.out hbl.out.size ?_ ?_ ?_ ?_ ?_);rfl;rfl;rfl;rfl
        intro A3 c3 w3 ho3 hb3
        have H3:=hid (Qa ho3 hb3)
        clear ho3 hb3))
      go_roundg (7-k)
      case measure=>omega
      case rel=>
       refine⟨k+1,A3,c3,N+1,by omega,by have:=HI.out.2.2;omega,by congr 1;omega,rfl,?_,H3.out.2⟩
       rw[HT.out,←List.append_assoc,←HX.out]
       exact H3.out.1
    ·obtain rfl:gk=0:=by omega
     obtain rfl:k=8:=by omega
     have hf:((128 :: List.replicate j 0)++((List.range 8).map fun j=>Sha.pbyte n (7-j)).take 8)=Sha.padding n:=by
      rw[List.take_of_length_le (by simp)];unfold Sha.padding;rw[← HZ.out];rfl
     have hl:=Sha.padding_length n
     rw[← HZ.out] at hl
     have HF:=hid (Qa hf hl)
     clear hf hl
     go_wp2_with fail
     go_ret
     exact⟨A,c,N,by rw[HF.out.2,HI.out.2.2];omega,rfl,HI.out.2.1,by rw[← HF.out.1];exact HI.out.1⟩
theorem KR {w:World}{g o:Nat}{l:List UInt8}(h:w.rangeAt g o (l.map b8))(a m:Nat):w.rangeAt g (o+a) (((l.drop a).take m).map b8):=fun j v hj=>by
 have hjm:j<m:=by
  apply Classical.byContradiction;intro hn
  rw[List.getElem?_eq_none (by simp;omega)] at hj;cases hj
 have:=h (a+j) v (by rw[← hj,List.getElem?_map,List.getElem?_map,List.getElem?_take,if_pos hjm,List.getElem?_drop])
 rw[Nat.add_assoc];exact this
theorem Sha.piece (l:List UInt8)(a:Nat)(s:Sha.St):Sha.compress (fun j=>((l.drop a).take 64).getD j 0) s=Sha.compress (Sha.blk l a) s:=by
 refine Sha.compress_congr (fun j hj=>?_) s
 unfold Sha.blk
 rw[List.getD_eq_getElem?_getD,List.getD_eq_getElem?_getD,List.getElem?_take,if_pos hj,List.getElem?_drop]
structure Rs (w:World) (nh:Nat) (S:Sha.St) (wr:World):Prop where
 r3:Blk wr nh 199 (stl S)
 r2:Blk wr w.heap.size 39 (List.replicate 32 (b8 0))
 bl:Below w.heap.size w wr
 o3:w.heap.size<nh
theorem Rs.fut {w:World}{nh:Nat}{S:Sha.St}{wr:World}(h:Rs w nh S wr){w':World}(hb:Below wr.heap.size wr w'):Rs w nh S w':=⟨h.r3.grown hb,h.r2.grown hb,gro h.bl hb,h.o3⟩
theorem Rs.next {w:World}{nh:Nat}{S:Sha.St}{wr:World}(h:Rs w nh S wr)(S':Sha.St):Rs w nh S' (wr.setCells nh 0 (stl S')):=by
 have ho:=h.o3
 refine⟨?_,?_,Qc _ (by omega) _ _ _ h.bl,ho⟩
 ·have:=h.r3.setCells (stl S') 0 _ (by show 0+8≤8;omega)
  rwa [XL (stl S) (stl S') rfl] at this
 ·exact (Zh nh w.heap.size (by omega) _ _ _).trans h.r2
theorem Qgb (S:Sha.St)(i q r:Nat)(hi:i=4*q+r)(hr:r<4):n32 (Sha.word S q) / 2^(24-8*r) % 256=n8 (Sha.outB S i):=by
 subst hi
 rw[Jk _ _ (by omega),←IntKind.wrap_u8,Kc]
 unfold Sha.outB
 rw[show (4*q+r) / 4=q from by omega,show (4*q+r) % 4=r from by omega]
theorem Qb9 {h:Sha.St}{i:Nat}{wr:World}{g:Nat}{v:Int}(hv:v=n8 (Sha.outB h i))(hr:wr.rowIs g 39 32 (JG h i)):(wr.setCell ⟨g,i,none⟩ (.int .u8 v)).rowIs g 39 32 (JG h (i+1)):=by
 subst hv
 refine (hr.set i (b8 (Sha.outB h i))).congr fun j hj=>?_
 unfold JG
 by_cases h1:j=i
 ·subst h1;rw[if_pos rfl,if_pos (by omega)]
 ·rw[if_neg h1]
  by_cases h2:j<i
  ·rw[if_pos h2,if_pos (by omega)]
  ·rw[if_neg h2,if_neg (by omega)]
theorem Qd3 (S:Sha.St)(q:Nat)(h:q<8):(stl S)[q]?=some (b32 (Sha.word S q)):=by
 match q,h with|0,_=>rfl|1,_=>rfl|2,_=>rfl|3,_=>rfl|4,_=>rfl|5,_=>rfl|6,_=>rfl|7,_=>rfl
theorem Qd4 (A:Option Addr)(n c:Nat)(l:List UInt8)(w:World)(hn:l.length=n)(h:Rd w A (l.map b8))(hc:n≤c)(hl:n<1099511627776):
 Calls Tryz.prog 76 #[.slice A n c] w fun e w'=>e= .returned (dg (Sha.sum l))∧Below w.heap.size w w':=by
 have HA:=hid (Qa hn h)
 clear hn h
 obtain⟨K,hK⟩:∃ K,K=n / 64:=⟨_,rfl⟩
 obtain⟨W,hW⟩:∃ W,W=64*K:=⟨_,rfl⟩
 have hWi:(n:Int) / 64*64=(W:Int):=by omega
 have hWn:W≤n:=by omega
 have HK:=hid (Qa hK hW)
 clear hK hW
 have hb0:=Blk.new w 39 (List.replicate 32 (b8 0))
 have HB0:=hid hb0
 clear hb0
 go_enter Tryz.func76,Tryz.ntmps76
 go_wp2_with (first
  |(go_at_call 122
    refine (Wv _).mono ?_
    rintro e w1 ⟨rfl,hb1⟩
    have H1:=hid hb1
    clear hb1)
  |((with_reducible refine Qw 199 (.tmp 3) (.tmp 10) _ _ (stl Sha.H0) 8 (X2 _) ?_ (by kernel_rfl) (Jb _) ?_ ?_ ?_ ?_ ?_);rfl;rfl;rfl;rfl;rfl))
 have hs0:Rs w w1.heap.size (Sha.hashN l 0) (w1.alloc (.cells (stl Sha.H0).toArray 199)):=by
  refine⟨Blk.new w1 _ _,(HB0.out.grown H1.out).alloc _,gro (Qb w _) (gro H1.out (Qb w1 _)),?_⟩
  have:=H1.out.size
  rw[show ∀ o,(w.alloc o).heap.size=w.heap.size+1 from fun o=>by simp] at this
  omega
 obtain⟨nh,hnh⟩:∃ nh,nh=w1.heap.size:=⟨_,rfl⟩
 rw[← hnh] at hs0
 rw[← hnh]
 have HS0:=hid hs0
 clear hs0 hnh H1 HB0
 go_loopg [5] K (fun gg i wr=>∃ k a:Nat,k+gg=K∧a=64*k∧i= .int .i64 a∧Rs w nh (Sha.hashN l k) wr)
 case atStart=>exact⟨0,0,by omega,rfl,rfl,HS0.out⟩
 case round=>
  clear HS0
  obtain⟨k,a,hk,ha,rfl,hR⟩:=hrel
  have HR:=hid (Qa hR ha)
  clear hR
  have hWK:=HK.out.2
  have hnK:=HK.out.1
  by_cases hlt:k<K
  ·have haW:a<W:=by omega
   have ha64:a+64≤W:=by omega
   clear ha hWK hnK
   obtain⟨g,o,rfl,hr⟩:=HA.out.2 (by intro e;have h1:=HA.out.1;rw[← List.length_map (f:=b8),e] at h1;simp at h1;omega)
   have hgl:=Qo hr (by have:=HA.out.1;simp;omega)
   obtain⟨S,hS⟩:∃ S,S=Sha.hashN l k:=⟨_,rfl⟩
   have hsl:∀ w,(Instr.slice 34 (.slice (some ⟨g,o,none⟩) n c) (some (.int .i64 a)) (some (.int .i64 ((a:Int)+64))) none).run Tryz.prog w= .ok (.slice (some ⟨g,o+a,none⟩) 64 (c-a)) w:=fun w=>by
    have:=XC (P:=Tryz.prog) Tryz.underlying34 (e:=5) (size:=1) (by kernel_rfl) g o n c a (a+64) (by omega) (by omega) (by omega) w
    rw[Nat.mul_one,show a+64-a=64 from by omega] at this
    exact this
   have hcc:∀ s:Fut wr,Calls Tryz.prog 123 #[.agg (stl S).toArray,.slice (some ⟨g,o+a,none⟩) 64 (c-a)] s.v fun e w''=>e= .returned (.agg (stl (Sha.compress (Sha.blk l a) S)).toArray)∧∃ s':Fut wr,w''=s'.v:=fun s=>by
    rw[← Sha.piece l a S]
    exact Calls.fut_of (JC g (o+a) (c-a) ((l.drop a).take 64) (by have:=HA.out.1;simp;omega) S s.v (KR (Qh hr (HR.out.1.fut s.below).bl hgl) a 64))
   have hw3:wr.rangeAt nh 0 (stl S):=by rw[hS];exact HR.out.1.r3.whole
   have HC:=hid (Qa hcc (Qa (QA hw3) hS))
   clear hcc hw3 hr hS
   go_upto_region 6 with fail
   refine Qq 7 (by kernel_rfl) (by kernel_rfl) ?_
   dsimp only[List.take_succ_cons,List.take_zero,List.drop_succ_cons,List.drop_zero]
   repeat (first
    |(go_big_quiet_want;(with_reducible refine QG 199 (.tmp 3) nh 0 _ 8 _ (X2 S) HC.out.2.1 Tryz.underlying199 rfl (by kernel_rfl) ?_ ?_ ?_);rfl;rfl;simp only[Act.put,List.setIfInBounds_toArray,List.set_cons_zero,List.set_cons_succ];go_big_quiet_on)
    |go_big_quiet_step (with_reducible exact HC.out.1 _))
   refine wpQuiet_nil ?_
   rintro _ ⟨s,rfl⟩
   have H5:=hid (HR.out.1.fut s.below)
   obtain⟨S2,hS2⟩:∃ S2,S2=Sha.compress (Sha.blk l a) S:=⟨_,rfl⟩
   rw[← hS2]
   have hth:s.v.there nh 0 8:=H5.out.r3.there 0 8 (by show 0+8≤8;omega)
   have HS2:=hid (Qa hS2 (Jb S2))
   clear hS2
   (refine Qv 199 (.tmp 3) (.tmp 26) nh 0 _ 8 (X2 S2) hth (by kernel_rfl) HS2.out.2 ?_ ?_ ?_ ?_ ?_);rfl;rfl;rfl;rfl
   go_wp2_with fail
   go_roundg (gk-1)
   case measure=>omega
   case rel=>
    refine⟨k+1,a+64,by omega,by have:=HR.out.2;omega,by go_num,?_⟩
    have:=H5.out.next S2
    rw[HS2.out.1,HC.out.2.2,HR.out.2] at this
    rw[HS2.out.1,HC.out.2.2,HR.out.2]
    exact this
  ·obtain rfl:k=K:=by omega
   obtain rfl:a=W:=by omega
   clear hlt hk ha hWK hnK
   obtain⟨M,hM⟩:∃ M,M=136:=⟨_,rfl⟩
   have hmk:∀ w,(Instr.makeSlice 34 (.int .i64 0) (.int .i64 136)).run Tryz.prog w= .ok (.slice (some ⟨w.heap.size,0,none⟩) 0 136) (w.alloc (.cells (Array.replicate M (b8 0)) 5)):=fun w=>by
    have:=Uu 136 (by omega) w
    rw[List.toArray_replicate] at this
    rw[hM];exact this
   have ho:(wr.alloc (.cells (Array.replicate M (b8 0)) 5)).ownsRow wr.heap.size 5 1 (.slice (some ⟨wr.heap.size,0,none⟩) 0 136) 0 []:=by
    have:=Qax wr 136 (by omega) wr.heap.size (Nat.le_refl _)
    rw[List.toArray_replicate] at this
    rw[hM];exact this
   obtain⟨r,hr⟩:∃ r,r=n-a:=⟨_,rfl⟩
   obtain⟨c2,hc2⟩:∃ c2,c2=c-a:=⟨_,rfl⟩
   obtain⟨AT,hAT⟩:∃ AT,AT=if c=a then A else A.map (·.add a):=⟨_,rfl⟩
   have hsl:∀ w,(Instr.slice 34 (.slice A n c) (some (.int .i64 a)) none none).run Tryz.prog w= .ok (.slice AT r c2) w:=fun w=>by
    have:=Xp (P:=Tryz.prog) Tryz.underlying34 (e:=5) (size:=1) (by kernel_rfl) A n c a hWn w
    rw[Nat.mul_one,←hAT,←hr,←hc2] at this
    exact this
   have hbA:Below w.heap.size w wr:=HR.out.1.bl
   have hrd:Rd wr AT ((l.drop a).map b8):=by
    rw[hAT,List.map_drop]
    exact (HA.out.2.grown hbA).drop a c (by have:=HA.out.1;simp;omega)
   have hrl:(l.drop a).length=r:=by have:=HA.out.1;simp;omega
   have hpl:=Sha.padding_length n
   have hrn:r=n % 64:=by have h1:=HK.out.1;have h2:=HK.out.2;omega
   have hr64:r<64:=by omega
   have hbm:=Qb wr (.cells (Array.replicate M (b8 0)) 5)
   have HO:=hid (Qa ho (Qa hrd (Qa hrl (Qa hpl (Qa hrn hbm)))))
   clear hM ho hr hc2 hAT hbA hrd hrl hpl hrn hbm
   go_upto_region 10 with (first
    |((with_reducible refine XV (l:=[]) (.tmp 28) (.tmp 31) HO.out.1 AT r c2 r (Nat.zero_add r).symm (l.drop a) HO.out.2.2.1 (HO.out.2.1.grown HO.out.2.2.2.2.2) (by omega) HO.out.2.2.2.2.2 HO.out.2.2.2.2.2.size ?_ ?_ ?_ ?_ ?_);rfl;rfl;rfl;rfl
      intro A3 c3 w3 ho3 hb3
      have H3:=hid (Qa ho3 hb3)
      clear ho3 hb3)
    |(go_at_call 124
      refine (Qd2 n _ (by omega)).mono ?_
      rintro e w4 ⟨A4,c4,n4,hn4,rfl,hb4,ho4⟩
      have hn73:n4<73:=(by have:=HO.out.2.2.2.1;omega)
      have H4:=hid (Qa hn4 (Qa hb4 (Qa (QU ho4).1 (Qa (Qg H3.out.1 hb4) (gro H3.out.2 hb4)))))
      clear hn4 hb4 ho4)
    |((with_reducible refine XV (.tmp 33) (.tmp 37) H4.out.2.2.2.1 A4 n4 c4 (r+n4) rfl (Sha.padding n) H4.out.1 H4.out.2.2.1 (by omega) H4.out.2.2.2.2 H4.out.2.2.2.2.size ?_ ?_ ?_ ?_ ?_);rfl;rfl;rfl;rfl
      intro A5 c5 w5 ho5 hb5
      have H5:=hid (Qa ho5 hb5)
      clear ho5 hb5))
   obtain⟨R,hR⟩:∃ R,R=l.drop a++Sha.padding n:=⟨_,rfl⟩
   obtain⟨T,hT⟩:∃ T,T=l++Sha.padding n:=⟨_,rfl⟩
   obtain⟨N,hN⟩:∃ N,N=r+n4:=⟨_,rfl⟩
   obtain⟨K2,hK2⟩:∃ K2,K2=N / 64:=⟨_,rfl⟩
   have hN200:N<200:=by omega
   have hNK:N=64*K2:=by have h1:=HO.out.2.2.2.1;have h2:=H4.out.1;have h3:=HO.out.2.2.2.2.1;omega
   have hK20:0<K2:=by have h1:=HO.out.2.2.2.1;have h2:=H4.out.1;have h3:=HO.out.2.2.2.2.1;omega
   have hK22:K2<3:=by have h1:=HO.out.2.2.2.1;have h2:=H4.out.1;have h3:=HO.out.2.2.2.2.1;omega
   have hRl:R.length=N:=by rw[hR,List.length_append,HO.out.2.2.1,H4.out.1,hN]
   have hRT:R=T.drop a:=by rw[hR,hT,List.drop_append_of_le_length (by have:=HA.out.1;omega)]
   have hTl:T.length / 64=k+K2:=by rw[hT,List.length_append,HA.out.1,H4.out.1];have h1:=HK.out.1;have h2:=HK.out.2;have h3:=HO.out.2.2.2.2.1;omega
   have hTk:Sha.hashN T k=Sha.hashN l k:=by rw[hT];exact Sha.hashN_append l _ k (by have h1:=HA.out.1;have h2:=HK.out.2;omega)
   have hown:=H5.out.1
   rw[List.nil_append,←hR,←hN] at hown
   obtain⟨hrd,hcN⟩:=QU hown
   obtain⟨g5,o5,rfl,hr5⟩:=hrd (by intro e;rw[← List.length_map (f:=b8),e] at hRl;simp at hRl;omega)
   have hg5:=(hown.lt g5 rfl).1
   have hRs:Rs w nh (Sha.hashN T (k+0)) w5:=by rw[Nat.add_zero,hTk];exact HR.out.1.fut H5.out.2
   have hnhw:=HR.out.1.r3.lt
   have hne:g5≠nh:=by omega
   rw[← hN]
   have haK:=HK.out.2
   have HF:=hid (Qa hRs (Qa hr5 (Qa hRl (Qa hRT (Qa hTl hT)))))
   clear hR hT hN hK2 hRl hRT hTl hTk hown hrd hg5 hRs hnhw hr5 hsl hmk H3 H4 H5 HO HR hn73
   have HN:=hid (Qa hNK haK)
   clear haK
   go_wp2_with fail
   go_loopg [7] K2 (fun gg i wr=>∃ k2 a2:Nat,k2+gg=K2∧a2=64*k2∧i= .int .i64 a2∧Rs w nh (Sha.hashN T (k+k2)) wr∧wr.rangeAt g5 o5 (R.map b8))
   case atStart=>exact⟨0,0,by omega,rfl,rfl,HF.out.1,HF.out.2.1⟩
   case round=>
    obtain⟨k2,a2,hk2,ha2,rfl,hR,hr⟩:=hrel
    have HR:=hid (Qa hR (Qa hr ha2))
    clear hR hr
    by_cases hlt2:k2<K2
    ·have haN:a2<N:=by omega
     have ha64:a2+64≤N:=by omega
     clear ha2 hNK
     obtain⟨S,hS⟩:∃ S,S=Sha.hashN T (k+k2):=⟨_,rfl⟩
     have hsl:∀ w,(Instr.slice 34 (.slice (some ⟨g5,o5,none⟩) N c5) (some (.int .i64 a2)) (some (.int .i64 ((a2:Int)+64))) none).run Tryz.prog w= .ok (.slice (some ⟨g5,o5+a2,none⟩) 64 (c5-a2)) w:=fun w=>by
      have:=XC (P:=Tryz.prog) Tryz.underlying34 (e:=5) (size:=1) (by kernel_rfl) g5 o5 N c5 a2 (a2+64) (by omega) (by omega) (by omega) w
      rw[Nat.mul_one,show a2+64-a2=64 from by omega] at this
      exact this
     have hcc:∀ s:Fut wr,Calls Tryz.prog 123 #[.agg (stl S).toArray,.slice (some ⟨g5,o5+a2,none⟩) 64 (c5-a2)] s.v fun e w''=>e= .returned (.agg (stl (Sha.compress (Sha.blk R a2) S)).toArray)∧∃ s':Fut wr,w''=s'.v:=fun s=>by
      rw[← Sha.piece R a2 S]
      exact Calls.fut_of (JC g5 (o5+a2) (c5-a2) ((R.drop a2).take 64) (by have:=HF.out.2.2.1;simp;omega) S s.v (KR (Qm HR.out.2.1 s.below) a2 64))
     have hw3:wr.rangeAt nh 0 (stl S):=by rw[hS];exact HR.out.1.r3.whole
     have HC:=hid (Qa hcc (Qa (QA hw3) hS))
     clear hcc hw3 hS
     go_upto_region 13 with fail
     refine Qq 7 (by kernel_rfl) (by kernel_rfl) ?_
     dsimp only[List.take_succ_cons,List.take_zero,List.drop_succ_cons,List.drop_zero]
     repeat (first
      |(go_big_quiet_want;(with_reducible refine QG 199 (.tmp 3) nh 0 _ 8 _ (X2 S) HC.out.2.1 Tryz.underlying199 rfl (by kernel_rfl) ?_ ?_ ?_);rfl;rfl;simp only[Act.put,List.setIfInBounds_toArray,List.set_cons_zero,List.set_cons_succ];go_big_quiet_on)
      |go_big_quiet_step (with_reducible exact HC.out.1 _))
     refine wpQuiet_nil ?_
     rintro _ ⟨s,rfl⟩
     have H5:=hid (Qa (HR.out.1.fut s.below) (Qm HR.out.2.1 s.below))
     obtain⟨S2,hS2⟩:∃ S2,S2=Sha.compress (Sha.blk R a2) S:=⟨_,rfl⟩
     rw[← hS2]
     have hth:s.v.there nh 0 8:=H5.out.1.r3.there 0 8 (by show 0+8≤8;omega)
     have HS2:=hid (Qa hS2 (Jb S2))
     clear hS2
     (refine Qv 199 (.tmp 3) (.tmp 51) nh 0 _ 8 (X2 S2) hth (by kernel_rfl) HS2.out.2 ?_ ?_ ?_ ?_ ?_);rfl;rfl;rfl;rfl
     go_wp2_with fail
     go_roundg (gk-1)
     case measure=>omega
     case rel=>
      have e:Sha.hashN T (k+(k2+1))=S2:=by
       rw[HS2.out.1,HC.out.2.2,show k+(k2+1)=(k+k2)+1 from rfl,Sha.hashN]
       refine Sha.compress_congr (fun j hj=>?_) _
       unfold Sha.blk
       rw[HF.out.2.2.2.1,List.getD_eq_getElem?_getD,List.getD_eq_getElem?_getD,List.getElem?_drop,HR.out.2.2,HN.out.2,←Nat.add_assoc,←Nat.mul_add]
      refine⟨k2+1,a2+64,by omega,by have:=HR.out.2.2;omega,by go_num,?_,?_⟩
      ·rw[e];exact H5.out.1.next S2
      ·exact ((Qu.refl (· =nh) _).setN 0 (stl S2)).range H5.out.2 hne
    ·obtain rfl:k2=K2:=by omega
     obtain rfl:a2=N:=by omega
     clear hlt2 hk2 ha2 hNK hK20 hK22
     have hHT:Sha.hashN T (k+k2)=Sha.H T:=by unfold Sha.H;rw[HF.out.2.2.2.2.1]
     have hRs:=HR.out.1
     rw[hHT] at hRs
     have hfin:Sha.sum l=Sha.out (Sha.H T):=by unfold Sha.sum;rw[HF.out.2.2.2.2.2,HA.out.1]
     obtain⟨S,hS⟩:∃ S,S=Sha.H T:=⟨_,rfl⟩
     rw[← hS] at hRs hfin
     have hb8:=Blk.new wr 39 (List.replicate 32 (b8 0))
     have hrow:(wr.alloc (.cells (List.replicate 32 (b8 0)).toArray 39)).rowIs wr.heap.size 39 32 (JG S 0):=Xf hb8 (by simp) (fun i hi=>by rw[List.getElem?_replicate,if_pos hi];unfold JG;rw[if_neg (by omega)])
     have hRs2:=hRs.fut (Qb wr (.cells (List.replicate 32 (b8 0)).toArray 39))
     have hnd:=hRs.r3.lt
     have HX:=hid (Qa hRs2 (Qa hrow (Qa hfin hnd)))
     clear hHT hRs hfin hS hb8 hrow hRs2 hnd HR HF
     go_wp2_with fail
     obtain⟨nd,hnd⟩:∃ nd,nd=wr.heap.size:=⟨_,rfl⟩
     rw[← hnd] at HX
     rw[← hnd]
     clear hnd
     go_loopg [9] 32 (fun gg i wr=>∃ i':Nat,i'+gg=32∧i= .int .i64 i'∧Rs w nh S wr∧wr.rowIs nd 39 32 (JG S i'))
     case atStart=>exact⟨0,by omega,rfl,HX.out.1,HX.out.2.1⟩
     case round=>
      have HY:=hid HX.out.2.2
      have hnd2:=HX.out.2.2.2
      clear HX
      obtain⟨i,hi,rfl,hR,hrow⟩:=hrel
      have HR:=hid (Qa hR hrow)
      clear hR hrow
      by_cases hlt3:i<32
      ·obtain⟨q,hq⟩:∃ q,q=i / 4:=⟨_,rfl⟩
       have hq4:(i:Int) / 4=(q:Int):=by omega
       have hq8:q<8:=by omega
       have c3:wr.cell? ⟨nh,q,none⟩=some (b32 (Sha.word S q)):=by rw[HR.out.1.r3.cell];exact Qd3 S q hq8
       have c8:=HR.out.2.cell (i:=i) hlt3
       have f8:=HR.out.2.frozen i
       have hor:i % 4=0∨i % 4=1∨i % 4=2∨i % 4=3:=by omega
       have hvv:=Qgb S i q (i % 4) (by omega) (by omega)
       rcases hor with h0|h0|h0|h0
       all_goals
        rw[h0] at hvv
        have hr4:(i:Int) % 4=((i % 4:Nat):Int):=by omega
        rw[h0] at hr4
        have HV:=hid hvv
        clear h0 hq hvv
        go_wp2_with fail
        go_roundg (gk-1)
        case measure=>omega
        case rel=>
         refine⟨i+1,by omega,by go_num,?_,Qb9 ?_ HR.out.2⟩
         ·exact⟨HR.out.1.r3.far (by show nh≠nd;omega) _,HR.out.1.r2.far (by have:=HR.out.1.o3;show w.heap.size≠nd;omega) _,HR.out.1.bl.setCell (by have:=HR.out.1.o3;show w.heap.size≤nd;omega) _,HR.out.1.o3⟩
         ·rw[← HV.out];first|rfl|(rw [← Kc,IntKind.wrap_u8];show _=n32 (Sha.word S q) / 1 % 256;rw[Int.ediv_one])
      ·obtain rfl:i=32:=by omega
       have hl':wr.rangeAt nd 0 ((Sha.out S).map b8):=World.rangeAt_of_row HR.out.2 0 _ (by intro j hj;rw[Nat.zero_add,show (32:Nat)=4*8 from rfl];have h:=Qaj S j (by simpa [Sha.out] using hj);rw[Nat.zero_add] at h;exact h) (by simp[Sha.out])
       have ht:wr.there w.heap.size 0 32:=HR.out.1.r2.there 0 32 (by simp)
       have hlo:((Sha.out S).map b8).length=32:=by simp[Sha.out]
       have HO:=hid (Qa hlo (Qi (Sha.out S)))
       clear hlo
       go_wp2_with (first
        |((with_reducible refine Qf 39 (.tmp 8) nd 0 _ 32 _ HO.out.1 hl' Tryz.underlying39 rfl (by kernel_rfl) ?_ ?_ ?_ ?_);rfl;rfl;rfl)
        |((with_reducible refine Qv 39 (.tmp 2) (.tmp 68) w.heap.size 0 _ 32 HO.out.1 ht (by kernel_rfl) HO.out.2 ?_ ?_ ?_ ?_ ?_);rfl;rfl;rfl;rfl))
       exact QD w.heap.size 0 _ 32 _ HO.out.1 (World.rangeAt_setCells_same _ _ _ _ (by rw[HO.out.1];exact ht)) Tryz.underlying39 rfl (by kernel_rfl) rfl rfl rfl ⟨by rw[HY.out.1],Qc _ (Nat.le_refl _) _ _ _ HR.out.1.bl⟩
def Uw (d:List UInt8)(n j i:Nat):Value:=b8 (if n≤i∧i<j then 0 else d.getD i 0)
theorem Qca {d:List UInt8}{n j g:Nat}{w:World}(h:w.rowIs g 39 32 (Uw d n j))(hn:n≤j):(w.setCell ⟨g,j,none⟩ (.int .u8 0)).rowIs g 39 32 (Uw d n (j+1)):=by
 refine (h.set j (b8 0)).congr fun i hi=>?_
 unfold Uw
 by_cases h1:i=j
 ·subst h1;rw[if_pos rfl,if_pos (by omega)]
 ·rw[if_neg h1]
  by_cases h2:n≤i∧i<j
  ·rw[if_pos h2,if_pos (by omega)]
  ·rw[if_neg h2,if_neg (by omega)]
theorem Qd5 {d:List UInt8}{n:Nat}(hd:d.length=32)(h2:n≤32)(i:Nat)(hi:i<32):((Dg.cut n d).map b8)[i]?=some (Uw d n 32 i):=by
 unfold Dg.cut Uw
 rw[List.getElem?_map]
 by_cases h:n≤i
 ·rw[List.getElem?_append_right (by simp;omega),List.getElem?_replicate,if_pos (by simp;omega),if_pos ⟨h,hi⟩];rfl
 ·rw[List.getElem?_append_left (by simp;omega),List.getElem?_take,if_pos (by omega),if_neg (by omega),List.getElem?_eq_getElem (by omega)]
  simp[hd,hi]
theorem Zv (n:Nat)(A:Option Addr)(m c:Nat)(l:List UInt8)(w:World)(h2:n≤32)(hm:l.length=m)(h:Rd w A (l.map b8))(hc:m≤c)(hl:m<1099511627776):
 Calls Tryz.prog 44 #[.int .i64 n,.slice A m c] w fun e w'=>e= .returned (dg (Dg.sum n l))∧Below w.heap.size w w':=by
 have HH:=hid (Qa hm (Qa h hl))
 clear hm h hl
 obtain⟨d,hd⟩:∃ d,d=Sha.sum l:=⟨_,rfl⟩
 have hdl:d.length=32:=by rw[hd];exact Sha.sum_length l
 have hml:(d.map b8).length=32:=by rw[List.length_map,hdl]
 have hb0:=Blk.new w 40 (List.replicate 32 (b8 0))
 have HD:=hid (Qa hd hb0)
 clear hd hb0
 go_enter Tryz.func44,Tryz.ntmps44
 go_wp2_with (first
  |(go_at_call 76
    refine (Qd4 A m c l _ HH.out.1 (HH.out.2.1.grown (Qb w _)) hc HH.out.2.2).mono ?_
    rintro e w1 ⟨rfl,hb1⟩
    rw[← HD.out.1]
    have H1:=hid hb1
    clear hb1)
  |((with_reducible refine Qw 39 (.tmp 5) (.tmp 8) _ _ (d.map b8) 32 hml ?_ (by kernel_rfl) (Qi d) ?_ ?_ ?_ ?_ ?_);rfl;rfl;rfl;rfl;rfl))
 have hs1:w.heap.size<w1.heap.size:=by have:=H1.out.size;simp at this;omega
 have hr0:(w1.alloc (.cells (d.map b8).toArray 39)).rowIs w1.heap.size 39 32 (Uw d n n):=Xf (Blk.new w1 _ (d.map b8)) hml (fun i hi=>by unfold Uw;rw[if_neg (by omega)];simp[hdl,hi])
 have hbr:=(HD.out.2.grown H1.out).alloc (.cells (d.map b8).toArray 39)
 have hbl:=gro (Qb w _) (gro H1.out (Qb w1 (.cells (d.map b8).toArray 39)))
 obtain⟨nd,hnd⟩:∃ nd,nd=w1.heap.size:=⟨_,rfl⟩
 rw[← hnd] at hs1 hr0
 rw[← hnd]
 have H2:=hid (Qa hr0 (Qa hbr hbl))
 clear hnd hr0 hbr hbl
 go_loopg [6] (32-n) (fun g i wr=>∃ j:Nat,j+g=32∧n≤j∧i= .int .i64 j∧wr.rowIs nd 39 32 (Uw d n j)∧Blk wr w.heap.size 40 (List.replicate 32 (b8 0))∧Below w.heap.size w wr)
 case atStart=>exact⟨n,by omega,Nat.le_refl _,rfl,H2.out.1,H2.out.2.1,H2.out.2.2⟩
 case round=>
  clear H2
  obtain⟨j,hj,hnj,rfl,hr,hb,hbl⟩:=hrel
  have HR:=hid (Qa hr (Qa hb hbl))
  clear hr hb hbl
  by_cases hlt:j<32
  ·have c8:=HR.out.1.cell (i:=j) hlt
   have f8:=HR.out.1.frozen j
   go_wp2_with fail
   go_roundg (gk-1)
   case measure=>omega
   case rel=>exact⟨j+1,by omega,by omega,by go_num,Qca HR.out.1 hnj,HR.out.2.1.far (by show w.heap.size≠nd;omega) _,HR.out.2.2.setCell (by show w.heap.size≤nd;omega) _⟩
  ·obtain rfl:j=32:=by omega
   have hcl:((Dg.cut n d).map b8).length=32:=by rw[List.length_map];exact Dg.cut_length n d h2 hdl
   have hl':wr.rangeAt nd 0 ((Dg.cut n d).map b8):=World.rangeAt_of_row HR.out.1 0 _ (by intro j hj;rw[hcl] at hj;rw[Nat.zero_add];exact Qd5 hdl h2 j hj) (by rw[hcl];exact Nat.le_refl _)
   have ht:=HR.out.2.1.there 0 32 (by simp)
   have HO:=hid (Qa hcl (Qi (Dg.cut n d)))
   clear hcl
   go_wp2_with (first
    |((with_reducible refine Qf 39 (.tmp 5) nd 0 _ 32 _ HO.out.1 hl' Tryz.underlying39 rfl (by kernel_rfl) ?_ ?_ ?_ ?_);rfl;rfl;rfl)
    |((with_reducible refine Qv 40 (.tmp 4) (.tmp 16) w.heap.size 0 _ 32 HO.out.1 ht (by kernel_rfl) HO.out.2 ?_ ?_ ?_ ?_ ?_);rfl;rfl;rfl;rfl))
   exact QD w.heap.size 0 _ 32 _ HO.out.1 (World.rangeAt_setCells_same _ _ _ _ (by rw[HO.out.1];exact ht)) Tryz.underlying40 rfl (by kernel_rfl) rfl rfl rfl ⟨by rw[HD.out.1];rfl,Qc _ (Nat.le_refl _) _ _ _ HR.out.2.2⟩
end Go.Proofs.YtpnakfeafekneaaGreatDoor
