/- Part 16 of this proof. -/
import Derived.Test.YtpnakfeafekneaaGreatDoorG13
import Derived.Test.YtpnakfeafekneaaGreatDoorG15
set_option linter.unusedSimpArgs false
set_option linter.unusedVariables false
set_option maxHeartbeats 8000000
set_option maxRecDepth 100000
namespace Go.Proofs.YtpnakfeafekneaaGreatDoor
open Go.RowKit
abbrev ptr (b:Nat):Value:= .pointer (some ⟨b,0,none⟩)
def QR (d:List UInt8)(l r:Value)(s:Nat):List Value:=d.map b8++[l,r,.int .u64 s]
def Xb (w:World):Nat→MT→Prop
 |b,.leaf d=>d.length=32∧Blk w b 243 (QR d (.pointer none) (.pointer none) 1)
 |b,.node d l r=>d.length=32∧∃ bl br,Blk w b 243 (QR d (ptr bl) (ptr br) (2^(l.ht+1)))∧Xb w bl l∧Xb w br r
def Xj (w w':World):Prop:=∀ (k:Nat) (cs:List Value),Blk w k 243 cs→Blk w' k 243 cs
theorem Xb.stay {w w':World}(h:Xj w w'):∀ {t:MT} {b:Nat},Xb w b t→Xb w' b t
 | .leaf d,b,⟨h1,h2⟩=>⟨h1,h _ _ h2⟩
 | .node d l r,b,⟨h1,bl,br,h2,h3,h4⟩=>⟨h1,bl,br,h _ _ h2,Xb.stay h h3,Xb.stay h h4⟩
theorem Xj.of_grown {w w':World}(h:Below w.heap.size w w'):Xj w w':=fun _ _ hb=>hb.grown h
theorem Xb.grown {w w':World}(h:Below w.heap.size w w'){t:MT}{b:Nat}(hn:Xb w b t):Xb w' b t:=Xb.stay (Xj.of_grown h) hn
theorem Xb.cells {w:World}{b:Nat}{t:MT}(h:Xb w b t):t.dig.length=32∧∃ l r,Blk w b 243 (QR t.dig l r t.size):=by
 cases t with
 |leaf d=>exact⟨h.1,_,_,h.2⟩
 |node d l r=>obtain⟨h1,bl,br,h2,_⟩:=h;exact⟨h1,_,_,h2⟩
structure XE (w:World) (bs:List Nat) (ts:List MT):Prop where
 len:bs.length=ts.length
 at_:∀ (i b:Nat) (t:MT),bs[i]?=some b→ts[i]?=some t→Xb w b t
theorem XE.stay {w w':World}{bs:List Nat}{ts:List MT}(h:XE w bs ts)(hs:Xj w w'):XE w' bs ts:=⟨h.len,fun i b t h1 h2=>(h.at_ i b t h1 h2).stay hs⟩
def QT (w:World)(b n:Nat)(ds:List (List UInt8)):Prop:=∃ A c bs ts,Blk w b 180 [.int .i64 n,.int .u64 ds.length,.slice A bs.length c]∧Rd w A (bs.map ptr)∧bs.length≤c∧(XE w bs ts∧Tyd w 196 A)∧Q0 n ts∧Qj ts=ds∧XZ n ds
theorem QT.grown {w w':World}{b n:Nat}{ds:List (List UInt8)}(h:QT w b n ds)(hb:Below w.heap.size w w'):QT w' b n ds:=by
 obtain⟨A,c,bs,ts,h1,h2,h3,h4,h5⟩:=h
 exact⟨A,c,bs,ts,h1.grown hb,h2.grown hb,h3,⟨h4.1.stay (Xj.of_grown hb),h4.2.grown hb⟩,h5⟩
theorem Qfm (n:Nat)(h1:1≤n)(h2:n≤32)(w:World):
 Calls Tryz.prog 65 #[.int .i64 n] w fun e w'=>e= .returned (.tuple #[ptr w.heap.size,.int .i64 0])∧Below w.heap.size w w'∧QT w' w.heap.size n []:=by
 have i1:¬(n:Int)<1:=by omega
 have i2:¬(32:Int)< (n:Int):=by omega
 go_enter Tryz.func65,Tryz.ntmps65
 go_wp2_with fail
 go_ret2
 exact⟨rfl,Qb _ _,none,0,[],[],Blk.new w _ [.int .i64 n,.int .u64 0,.slice none 0 0],Rd.nil _ _,Nat.le_refl _,⟨⟨rfl,fun i b t h=>by simp at h⟩,Tyd.none _ _⟩,trivial,rfl,fun d hd=>by simp at hd⟩
theorem Wo (b n:Nat)(ds:List (List UInt8))(w:World)(h:QT w b n ds):
 Calls Tryz.prog 78 #[ptr b] w fun e w'=>e= .returned (.int .i64 n)∧w=w':=by
 obtain⟨A,c,bs,ts,h1,-⟩:=h
 have c0:w.cell? ⟨b,0,none⟩=some (.int .i64 n):=by rw[h1.cell];rfl
 clear h1
 go_enter Tryz.func78,Tryz.ntmps78
 go_wp2_with fail
 go_ret
 exact⟨rfl,rfl⟩
theorem Kq (b n:Nat)(ds:List (List UInt8))(w:World)(h:QT w b n ds):
 Calls Tryz.prog 106 #[ptr b] w fun e w'=>e= .returned (.int .u64 ds.length)∧w=w':=by
 obtain⟨A,c,bs,ts,h1,-⟩:=h
 have c0:w.cell? ⟨b,1,none⟩=some (.int .u64 ds.length):=by rw[h1.cell];rfl
 clear h1
 go_enter Tryz.func106,Tryz.ntmps106
 go_wp2_with fail
 go_ret
 exact⟨rfl,rfl⟩
theorem Qs.fut {w:World}(h:Qs w):∀ s:Fut w,Qs s.v:=fun s=>h.below s.below
theorem V9 (b n:Nat)(h1:1≤n)(h2:n≤32)(l r:List UInt8)(w:World)(hc:w.cell? ⟨b,0,none⟩=some (.int .i64 n))(hf:XZ n [l,r])(hw:Qs w):
 Calls Tryz.prog 173 #[ptr b,dg l,dg r] w fun e w'=>e= .returned (dg (Dg.node n l r))∧Below w.heap.size w w':=by
 have hl:(l.map b8).length=32:=by simp[(hf l (by simp)).1]
 have hr:(r.map b8).length=32:=by simp[(hf r (by simp)).1]
 have HF:=hid hf
 have HLl:=hid hl
 have HLr:=hid hr
 clear hf hl hr
 go_enter Tryz.func173,Tryz.ntmps173
 go_upto_region 1 with fail
 have hz:((w.alloc (.cells (l.map b8).toArray 40)).alloc (.cells (r.map b8).toArray 40)).heap.size=w.heap.size+1+1:=by simp
 have hb3:=ZH w (.cells (l.map b8).toArray 40) (.cells (List.replicate 32 (b8 0)).toArray 40) 40 (r.map b8)
 have hn3:=Blk.new ((w.alloc (.cells (l.map b8).toArray 40)).alloc (.cells (r.map b8).toArray 40)) 40 (List.replicate 32 (b8 0))
 rw[hz] at hn3
 refine Qe (fun w'=>Blk w' w.heap.size 40 (l.map b8)∧Blk w' (w.heap.size+1) 40 (r.map b8)∧Blk w' (w.heap.size+1+1) 40 (List.replicate 32 (b8 0))∧Below w.heap.size w w'∧w'.heap.size=w.heap.size+1+1+1)
  ⟨((Blk.new w _ _).alloc _).alloc _,hb3,hn3,(((Below.refl _ _).alloc (Nat.le_refl _) _).alloc (by simp) _).alloc (by rw[hz];omega) _,by simp⟩ ?_
 clear hz hb3 hn3
 rintro w1 hh
 have HR:=hid hh
 clear hh
 have hcc:w1.cell? ⟨b,0,none⟩=some (.int .i64 n):=by rw[HR.out.2.2.2.1.cell (p:=⟨b,0,none⟩) (World.block_lt_of_cell? w _ hc)];exact hc
 have HCC:=hid hcc
 clear hcc
 have hdl:((Dg.node n l r).map b8).length=32:=by have:=Dg.sum_length n (Dg.nodeIn n l r) h2;unfold Dg.node;simp[this]
 have HDL:=hid hdl
 clear hdl
 refine ZY 12 10 11 8 _ _ _ 40 (List.replicate 32 (b8 0)) ((Dg.node n l r).map b8) (.agg (List.replicate 32 (b8 0)).toArray) 7 17
  {tmps:= #[ptr b,dg l,dg r,undef,ptr w.heap.size,ptr (w.heap.size+1),ptr (w.heap.size+1+1),undef,undef,.tuple #[dg (Dg.node n l r),.int .i64 0],ptr b,ptr b,ptr b,.int .i64 n,dg l,dg r,.tuple #[dg (Dg.node n l r),.int .i64 0],dg (Dg.node n l r),.int .i64 0,undef],defers:=[]}
  (by kernel_rfl) rfl rfl rfl rfl rfl rfl rfl rfl (by kernel_rfl) rfl (by rw[HDL.out];kernel_rfl) (by rw[HDL.out];simp) (Qi _) rfl rfl (by decide) (by decide) (by decide) (by decide) (by kernel_rfl) (by kernel_rfl) (fun g=>by kernel_rfl) (by kernel_rfl) rfl (by simp) ?h ?ht
 case h=>
  intro w2 g hb2 hg
  have hf:=Fut.cell (w:=w2) (show w2.cell? ⟨b,0,none⟩=some (.int .i64 n) from by rw[hb2.cell (p:=⟨b,0,none⟩) (World.block_lt_of_cell? _ _ HCC.out)];exact HCC.out)
  have hws:=(hw.below (gro HR.out.2.2.2.1 hb2)).fut
  dsimp only[Zt,List.take_succ_cons,List.take_zero,List.drop_succ_cons,List.drop_zero,List.set_cons_zero,List.set_cons_succ]
  repeat (first
   |(go_big_quiet_want;(with_reducible refine QG 40 (.tmp 4) w.heap.size 0 _ 32 _ HLl.out (QA (HR.out.1.grown hb2).whole) Tryz.underlying40 rfl (by kernel_rfl) ?_ ?_ ?_);rfl;rfl;simp only[Act.put,List.setIfInBounds_toArray,List.set_cons_zero,List.set_cons_succ];go_big_quiet_on)
   |(go_big_quiet_want;(with_reducible refine QG 40 (.tmp 5) (w.heap.size+1) 0 _ 32 _ HLr.out (QA (HR.out.2.1.grown hb2).whole) Tryz.underlying40 rfl (by kernel_rfl) ?_ ?_ ?_);rfl;rfl;simp only[Act.put,List.setIfInBounds_toArray,List.set_cons_zero,List.set_cons_succ];go_big_quiet_on)
   |go_big_quiet_step (exact Calls.fut_of (Qfi n h1 h2 l r _ HF.out (hws _))))
  exact wpQuiet_nil rfl
 case ht=>
  intro g w2 hg hb2 hgb
  have hsz:=HR.out.2.2.2.2
  have h6:Blk w2 (w.heap.size+1+1) 40 (List.replicate 32 (b8 0)):=HR.out.2.2.1.grown hb2
  have hbl:Below w.heap.size w w2:=gro HR.out.2.2.2.1 hb2
  have hld:=hgb.whole
  have ht6:=h6.there 0 32 (by simp)
  have HE:=hid hbl
  clear hgb hsz h6 hbl HR hg hb2
  dsimp only[List.drop_succ_cons,List.drop_zero]
  simp only[Act.put,List.setIfInBounds_toArray,List.set_cons_zero,List.set_cons_succ]
  go_wp2_with (first
   |((with_reducible refine Qf 40 (.tmp 7) g 0 _ 32 _ HDL.out hld Tryz.underlying40 rfl (by kernel_rfl) ?_ ?_ ?_ ?_);rfl;rfl;rfl)
   |((with_reducible refine Qv 40 (.tmp 6) (.tmp 19) (w.heap.size+1+1) 0 ((Dg.node n l r).map b8) 32 HDL.out ht6 (by kernel_rfl) (Qi _) ?_ ?_ ?_ ?_ ?_);rfl;rfl;rfl;rfl))
  exact QD (w.heap.size+1+1) 0 _ 32 _ HDL.out (World.rangeAt_setCells_same _ _ _ _ (by rw[HDL.out];exact ht6)) Tryz.underlying40 rfl (by kernel_rfl) rfl rfl rfl ⟨rfl,Qc _ (by omega) _ _ _ HE.out⟩
theorem Qbq (k:Nat)(hk:2≤k)(hk2:k<1099511627776)(w:World):
 Calls Tryz.prog 184 #[.int .u64 k] w fun e w'=>e= .returned (.int .u64 (Mt.below k))∧w=w':=by
 go_enter Tryz.func184,Tryz.ntmps184
 go_wp2_with fail
 go_loopg [3] k (fun g s wr=>∃ m i:Nat,m+g=k+1∧s= .int .u64 m∧m=2^i∧m<k∧wr=w)
 case atStart=>exact⟨1,0,by omega,rfl,rfl,by omega,rfl⟩
 case round=>
  obtain⟨m,i,hm,rfl,hi,hlt,rfl⟩:=hrel
  have HI:=hid hi
  clear hi
  have hs:IntKind.u64.wrap ((k:Int)-m)=(k:Int)-m:=by rw[IntKind.wrap_u64];omega
  by_cases h:m<k-m
  ·have i1:(m:Int)< (k:Int)-m:=by omega
   have h2:IntKind.u64.wrap ((m:Int)*2)=((m*2:Nat):Int):=by rw[IntKind.wrap_u64];omega
   have hpos:0<m:=by rw[HI.out];exact Nat.two_pow_pos i
   go_wp2_with fail
   go_roundg (k+1-m*2)
   case measure=>omega
   case rel=>exact⟨m*2,i+1,by omega,by first|rfl|go_num,by rw[HI.out,Nat.pow_succ],by omega,rfl⟩
  ·have i1:¬(m:Int)< (k:Int)-m:=by omega
   have hb:Mt.below k=m:=by rw[Mt.below_eq k i hk (by rw[← HI.out];omega) (by rw[← HI.out];omega),HI.out]
   have HB:=hid hb
   clear hb
   go_wp2_with fail
   go_ret
   exact⟨by rw[HB.out];rfl,rfl⟩
theorem Qbr (bn p a sz:Nat)(d:List UInt8)(l r:Value)(w:World)(hp:Blk w p 38 [.int .u64 a])(hn:Blk w bn 243 (QR d l r sz))(hd:d.length=32)(ha:a<sz)(hs:sz<9223372036854775808):
 Calls Tryz.prog 210 #[ptr bn,ptr p] w fun e w'=>e= .returned (if a<sz / 2 then l else r)∧Qu (· =p) w w'∧Blk w' p 38 [.int .u64 (if a<sz / 2 then a else a-sz / 2:Nat)]:=by
 have c0:w.cell? ⟨p,0,none⟩=some (.int .u64 a):=by rw[hp.cell];rfl
 have f0:=hp.frozen 0
 have n1:w.cell? ⟨bn,32,none⟩=some l:=by rw[hn.cell];unfold QR;rw[List.getElem?_append_right (by simp[hd])];simp[hd]
 have n2:w.cell? ⟨bn,33,none⟩=some r:=by rw[hn.cell];unfold QR;rw[List.getElem?_append_right (by simp[hd])];simp[hd]
 have n3:w.cell? ⟨bn,34,none⟩=some (.int .u64 sz):=by rw[hn.cell];unfold QR;rw[List.getElem?_append_right (by simp[hd])];simp[hd]
 have hne:bn≠p:=fun e=>by
  subst e
  unfold Blk at hp hn
  rw[hp] at hn
  injection hn with hn
  injection hn with hn hn2
  exact absurd hn2 (by decide)
 have HN:=hid (Qa hp hn)
 clear hp hn
 by_cases h:a<sz / 2
 ·have i1:(a:Int)< (sz:Int) / 2:=by omega
  go_enter Tryz.func210,Tryz.ntmps210
  go_upto_region 1 with fail
  go_quiet (fail)
  have n1q:(w.drewN nq).cell? ⟨bn,32,none⟩=some l:=n1
  go_wp2_with fail
  go_ret
  exact⟨rfl,(Qu.refl _ _).drewN _,HN.out.1.drewN _⟩
 ·have i1:¬(a:Int)< (sz:Int) / 2:=by omega
  have hsub:IntKind.u64.wrap ((a:Int)-(sz:Int) / 2)=((a-sz / 2:Nat):Int):=by rw[IntKind.wrap_u64];omega
  go_enter Tryz.func210,Tryz.ntmps210
  go_upto_region 1 with fail
  go_quiet (fail)
  go_upto_region 3 with fail
  have d0:(w.drewN nq).cell? ⟨p,0,none⟩=some (.int .u64 a):=c0
  have d2:(w.drewN nq).cell? ⟨bn,33,none⟩=some r:=n2
  have d3:(w.drewN nq).cell? ⟨bn,34,none⟩=some (.int .u64 sz):=n3
  refine QW 10 (by kernel_rfl) (by kernel_rfl) ?_
  dsimp only[List.take_succ_cons,List.take_zero,List.drop_succ_cons,List.drop_zero]
  repeat go_big_quiet_step (fail)
  refine wpQuiet_nil ?_
  rintro _ ⟨nq2,rfl⟩
  have e0:((w.drewN nq).drewN nq2).cell? ⟨p,0,none⟩=some (.int .u64 a):=c0
  have e1:((w.drewN nq).drewN nq2).frozen? ⟨p,0,none⟩=false:=f0
  have e2:((w.drewN nq).drewN nq2).cell? ⟨bn,33,none⟩=some r:=n2
  go_wp2_with fail
  go_ret
  exact⟨rfl,((Qu.refl _ _).drewN _).set1 0 _,(HN.out.1.drewN _).set_ 0 _⟩
def QX (ts:List MT)(j:Nat):Nat:=(Qj (ts.take j)).length
theorem Q0.get_ok {n:Nat}:∀ {ts:List MT},Q0 n ts→∀ (j:Nat) (hj:j<ts.length),ts[j].ok n
 |t :: ts,h,0,_=>h.1
 |t :: ts,h,j+1,hj=>Q0.get_ok h.2.2 j (by simpa using hj)
theorem Yc {n:Nat}{ts:List MT}(hp:Q0 n ts)(j:Nat)(hj:j<ts.length):QX ts (j+1)=QX ts j+ts[j].size:=by
 have hok:=hp.get_ok j hj
 unfold QX Qj
 rw[List.take_succ_eq_append_getElem hj,List.flatMap_append,List.flatMap_cons,List.flatMap_nil,List.append_nil,List.length_append,MT.leaves_len n _ hok]
theorem Q0.drop {n:Nat}:∀ {ts:List MT},Q0 n ts→∀ j,Q0 n (ts.drop j)
 |[],_,j=>by simp[Q0]
 |t :: ts,h,0=>h
 |t :: ts,h,j+1=>Q0.drop h.2.2 j
theorem Kr {ts:List MT}(j:Nat):Qj ts=Qj (ts.take j)++Qj (ts.drop j):=by
 unfold Qj
 rw[← List.flatMap_append,List.take_append_drop]
theorem YV {n:Nat}:∀ {ts:List MT},Q0 n ts→∀ (j:Nat) (hj:j<ts.length),2^(ts[j].ht+1)∣QX ts j∨QX ts j=0
 |t :: ts,h,0,_=> .inr (by simp[QX,Qj])
 |t :: ts,h,j+1,hj=>by
  left
  have hj':j<ts.length:=by simpa using hj
  have e:QX (t :: ts) (j+1)=t.size+QX ts j:=by
   simp[QX,Qj,MT.leaves_len n t h.1]
  have h1:2^(ts[j].ht+1)∣t.size:=Nat.pow_dvd_pow 2 (h.2.1 _ (List.getElem_mem hj'))
  rw[e]
  refine Nat.dvd_add h1 ?_
  rcases YV h.2.2 j hj' with h2|h2
  ·exact h2
  ·rw[h2];exact Nat.dvd_zero _
theorem Qdf {n:Nat}{ts:List MT}(hp:Q0 n ts)(j:Nat)(hj:j<ts.length)(lo k:Nat)(hd:2^k∣lo)(hl:lo+2^k≤(Qj ts).length)(h1:QX ts j≤lo)(h2:lo<QX ts j+ts[j].size):
 k≤ts[j].ht∧2^k∣lo-QX ts j∧lo-QX ts j+2^k≤ts[j].size:=by
 have hrest:(Qj (ts.drop j)).length<2^(ts[j].ht+1):=by
  have hpd:=hp.drop j
  rw[List.drop_eq_getElem_cons hj] at hpd ⊢
  exact Q0.rest hpd (fun u hu=>by
   rcases List.mem_cons.1 hu with rfl|hu
   ·omega
   ·have:=hpd.2.1 u hu;omega)
 have htot:(Qj ts).length=QX ts j+(Qj (ts.drop j)).length:=by
  rw[Kr j,List.length_append];rfl
 have hk:k≤ts[j].ht:=by
  rcases Nat.lt_or_ge ts[j].ht k with h|h
  ·have:2^(ts[j].ht+1)≤2^k:=Nat.pow_le_pow_right (by decide) h
   omega
  ·exact h
 have hdv:2^k∣QX ts j:=by
  rcases YV hp j hj with h|h
  ·exact Nat.dvd_trans (Nat.pow_dvd_pow 2 (by omega)) h
  ·rw[h];exact Nat.dvd_zero _
 have hdd:2^k∣lo-QX ts j:=Nat.dvd_sub hd hdv
 refine⟨hk,hdd,?_⟩
 have hsz:2^k∣ts[j].size:=Nat.pow_dvd_pow 2 hk
 obtain⟨x,hx⟩:=hdd
 obtain⟨y,hy⟩:=hsz
 have hlt:2^k*x<2^k*y:=by omega
 have:x<y:=Nat.lt_of_mul_lt_mul_left hlt
 have h3:2^k*(x+1)≤2^k*y:=Nat.mul_le_mul_left _ this
 rw[Nat.mul_add,Nat.mul_one] at h3
 omega
structure Qg2 (w:World) (b n:Nat) (ds:List (List UInt8)) (A:Option Addr) (c:Nat) (bs:List Nat) (ts:List MT):Prop where
 blk:Blk w b 180 [.int .i64 n,.int .u64 ds.length,.slice A bs.length c]
 rd:Rd w A (bs.map ptr)
 cap:bs.length≤c
 nodes:XE w bs ts
 peaks:Q0 n ts
 leaves:Qj ts=ds
 fits:XZ n ds
theorem QT.is {w:World}{b n:Nat}{ds:List (List UInt8)}(h:QT w b n ds):∃ A c bs ts,Qg2 w b n ds A c bs ts:=by
 obtain⟨A,c,bs,ts,h1,h2,h3,h4,h5,h6,h7⟩:=h
 exact⟨A,c,bs,ts,h1,h2,h3,h4.1,h5,h6,h7⟩
structure WhI (w:World) (at_:Nat) (w':World):Prop where
 a:Blk w' w.heap.size 38 [.int .u64 at_]
 r:Blk w' (w.heap.size+1) 40 (List.replicate 32 (b8 0))
 bl:Below w.heap.size w w'
theorem WhI.new (w:World)(x:Nat):WhI w x ((w.alloc (.cells #[.int .u64 x] 38)).alloc (.cells (List.replicate 32 (b8 0)).toArray 40)):=by
 refine⟨(Blk.new w 38 [.int .u64 x]).alloc _,?_,((Below.refl _ _).alloc (Nat.le_refl _) _).alloc (by simp) _⟩
 have:=Blk.new (w.alloc (.cells #[.int .u64 x] 38)) 40 (List.replicate 32 (b8 0))
 rwa [show (w.alloc (.cells #[.int .u64 x] 38)).heap.size=w.heap.size+1 by simp] at this
theorem WhI.set {w w':World}{x:Nat}(h:WhI w x w')(y:Nat)(nq:Nat):WhI w y ((w'.drewN nq).setCell ⟨w.heap.size,0,none⟩ (.int .u64 y)):=
 ⟨(h.a.drewN nq).set_ 0 _,(h.r.drewN nq).far (by simp) _,(Q5 h.bl nq).setCell (Nat.le_refl _) _⟩
theorem WhI.drew {w w':World}{x:Nat}(h:WhI w x w')(nq:Nat):WhI w x (w'.drewN nq):=⟨h.a.drewN nq,h.r.drewN nq,Q5 h.bl nq⟩
theorem Jn {n:Nat}:∀ {ts:List MT},Q0 n ts→ts.length≤(Qj ts).length
 |[],_=>Nat.zero_le _
 |t :: ts,h=>by
  have h1:=Jn h.2.2
  have h2:=MT.leaves_len n t h.1
  have h3:=t.size_pos
  have:(Qj (t :: ts)).length=t.leaves.length+(Qj ts).length:=by simp[Qj]
  rw[this,List.length_cons];omega
theorem Qfn {n:Nat}{ts:List MT}(h:Q0 n ts)(j:Nat)(hj:j<ts.length):ts[j].size≤(Qj ts).length:=by
 have h1:=Yc h j hj
 have h2:QX ts (j+1)≤(Qj ts).length:=by rw[Kr (j+1),List.length_append];unfold QX;omega
 omega
theorem XR {w w':World}{p:Nat}{t:TypeId}{cs:List Value}(hk:Qu (· =p) w w')(hp:Blk w p t cs)(ht:t≠243):Xj w w':=fun k cs' hb=>by
 refine hk.blk hb ?_
 intro e
 have e':k=p:=e
 subst e'
 unfold Blk at hp hb
 rw[hp] at hb
 injection hb with hb
 injection hb with _ h2
 exact ht h2
theorem Qbs {n:Nat}{ts:List MT}(h:Q0 n ts)(j:Nat)(hj:j<ts.length)(x N:Nat)(hx:x+N≤ts[j].size):(ts[j].leaves.drop x).take N=((Qj ts).drop (QX ts j+x)).take N:=by
 have hl:=MT.leaves_len n _ (h.get_ok j hj)
 have e:Qj ts=Qj (ts.take j)++(ts[j].leaves++Qj (ts.drop (j+1))):=by
  rw[Kr j]
  congr 1
  rw[List.drop_eq_getElem_cons hj];rfl
 have ha:QX ts j=(Qj (ts.take j)).length:=rfl
 conv=>rhs;rw[e,ha,List.drop_append,List.drop_eq_nil_of_le (by omega),List.nil_append,Nat.add_sub_cancel_left,List.drop_append_of_le_length (by omega),List.take_append_of_le_length (by simp;omega)]
theorem Qfo {N x y:Nat}(h1:N∣x)(h2:N∣y)(h:x<y):x+N≤y:=by
 obtain⟨a,rfl⟩:=h1
 obtain⟨c,rfl⟩:=h2
 have:a<c:=Nat.lt_of_mul_lt_mul_left h
 have h3:N*(a+1)≤N*c:=Nat.mul_le_mul_left _ this
 rwa [Nat.mul_add,Nat.mul_one] at h3
theorem WhI.kept {w w1 w2:World}{x y:Nat}(h:WhI w x w1)(hk:Qu (· =w.heap.size) w1 w2)(ha:Blk w2 w.heap.size 38 [.int .u64 y]):WhI w y w2:=
 ⟨ha,hk.blk h.r (by show ¬_=_;omega),hk.step h.bl h.bl.size (fun k hk=>by show ¬_=_;omega)⟩
theorem Qbt (b n lo k:Nat)(ds:List (List UInt8))(w:World)(h:QT w b n ds)(hn:n≤32)(hd:2^k∣lo)(hl:lo+2^k≤ds.length)(hds:ds.length<1099511627776):
 Calls Tryz.prog 183 #[ptr b,.int .u64 lo,.int .u64 ((2^k:Nat):Int)] w fun e w'=>e= .returned (dg (Mt.log n ((ds.drop lo).take (2^k))))∧Below w.heap.size w w':=by
 obtain⟨A,c,bs,ts,hT⟩:=h.is
 clear h
 have hpow:0<2^k:=Nat.two_pow_pos k
 obtain⟨N,hN⟩:∃ N,N=2^k:=⟨_,rfl⟩
 rw[← hN] at hd hl hpow ⊢
 have c2:w.cell? ⟨b,2,none⟩=some (.slice A bs.length c):=by rw[hT.blk.cell];rfl
 have hbl:=hT.blk.lt
 have hlen:=hT.nodes.len
 have htsl:ts.length≤ds.length:=by have:=Jn hT.peaks;rwa [hT.leaves] at this
 have HT:=hid (Qa hT (Qa hN hd))
 clear hT hN hd
 go_enter Tryz.func183,Tryz.ntmps183
 go_upto_region 1 with fail
 refine Qe (fun w'=>WhI w lo w') (WhI.new w lo) ?_
 rintro w1 hw1
 have c2w:w1.cell? ⟨b,2,none⟩=some (.slice A bs.length c):=by rw[hw1.bl.cell (p:=⟨b,2,none⟩) hbl];exact c2
 have HW:=hid hw1
 clear hw1 c2
 go_wp2_with fail
 go_loopg [7,15] ts.length (fun g s7 i wr=>∃ j:Nat,j+g=ts.length∧i= .int .i64 j∧QX ts j≤lo∧WhI w (lo-QX ts j) wr)
 case atStart=>exact⟨0,by omega,rfl,by simp[QX,Qj],by simpa [QX,Qj] using HW.out⟩
 case round=>
  clear HW
  obtain⟨j,hj,rfl,hjl,hi⟩:=hrel
  have HI:=hid hi
  clear hi
  by_cases hlt:j<ts.length
  ·have hjb:j<bs.length:=by omega
   obtain⟨g,o,rfl,hr⟩:=HT.out.1.rd (fun e=>by have h0:bs=[]:=(by simpa using e);rw[h0] at hjb;simp at hjb)
   have c3:wr.cell? ⟨g,o+j,none⟩=some (ptr bs[j]):=by
    have hm:(bs.map ptr)[j]?=some (ptr bs[j]):=by simp[hjb]
    rw[HI.out.bl.cell (p:=⟨g,o+j,none⟩) (Qo hr (by simp;omega)),hr j _ hm]
   have hnode:Xb wr bs[j] ts[j]:=(HT.out.1.nodes.at_ j bs[j] ts[j] (by simp[hjb]) (by simp[hlt])).grown HI.out.bl
   obtain⟨hdl,vl,vr,hnb⟩:=hnode.cells
   have c4:wr.cell? ⟨bs[j],34,none⟩=some (.int .u64 ts[j].size):=by rw[hnb.cell];unfold QR;rw[List.getElem?_append_right (by simp[hdl])];simp[hdl]
   have c5:wr.cell? ⟨w.heap.size,0,none⟩=some (.int .u64 (lo-QX ts j:Nat)):=by rw[HI.out.a.cell];rfl
   have f5:=HI.out.a.frozen 0
   have hsucc:=Yc HT.out.1.peaks j hlt
   have HN:=hid (Qa hnode (Qa hr hsucc))
   clear hnode hnb hr hsucc hdl
   by_cases hin:lo-QX ts j<ts[j].size
   ·have i1:((lo-QX ts j:Nat):Int)< ((ts[j].size:Nat):Int):=by omega
    go_upto_region 6 with fail
    go_quiet (fail)
    have hbi:=Qdf HT.out.1.peaks j hlt lo k (by rw[← HT.out.2.1];exact HT.out.2.2) (by rw[HT.out.1.leaves,←HT.out.2.1];exact hl) hjl (by omega)
    rw[← HT.out.2.1] at hbi
    have hpart:=Qbs HT.out.1.peaks j hlt (lo-QX ts j) N hbi.2.2
    rw[HT.out.1.leaves,show QX ts j+(lo-QX ts j)=lo by omega] at hpart
    have hszl:=Qfn HT.out.1.peaks j hlt
    rw[HT.out.1.leaves] at hszl
    have H2:=hid (Qa (HN.out.1.grown ((Below.refl _ _).trans (Q5 (Below.refl _ _) nq))) (Qa (HT.out.1.peaks.get_ok j hlt) (Qa hbi (Qa hpart (Qa hszl (HI.out.drew nq))))))
    clear hbi hpart hszl
    rename World=>wo
    go_wp2_with fail
    go_loopg [7] ts[j].ht (fun g s7 wr=>∃ (nb x:Nat) (t:MT),g=t.ht∧s7=ptr nb∧Xb wr nb t∧t.ok n∧k≤t.ht∧N∣x∧x+N≤t.size∧t.size≤ds.length∧(t.leaves.drop x).take N=(ds.drop lo).take N∧WhI w x wr)
    case atStart=>exact⟨bs[j],lo-QX ts j,ts[j],rfl,rfl,H2.out.1,H2.out.2.1,H2.out.2.2.1.1,H2.out.2.2.1.2.1,H2.out.2.2.1.2.2,H2.out.2.2.2.2.1,H2.out.2.2.2.1,H2.out.2.2.2.2.2⟩
    case round=>
     obtain⟨nb,x,t,hgt,rfl,hna,htok,hkt,hdx,hxs,hsl,hpt,hwi⟩:=hrel
     obtain⟨hdl,vl,vr,hnb⟩:=hna.cells
     have n34:wr.cell? ⟨nb,34,none⟩=some (.int .u64 t.size):=by rw[hnb.cell];unfold QR;rw[List.getElem?_append_right (by simp[hdl])];simp[hdl]
     have HQ:=hid (Qa hna (Qa htok (Qa hdx (Qa hpt (Qa hwi (Qa hnb hdl))))))
     clear hna htok hdx hpt hwi hnb hdl
     by_cases hkk:t.ht=k
     ·have hsz:t.size=N:=by rw[HT.out.2.1,←hkk];rfl
      have i1:¬((N:Nat):Int)< ((t.size:Nat):Int):=by omega
      have hx0:x=0:=by omega
      have hroot:Mt.log n ((ds.drop lo).take N)=t.dig:=by
       rw[MT.dig_log n t HQ.out.2.1,←HQ.out.2.2.2.1,hx0,List.drop_zero,List.take_of_length_le (by rw[MT.leaves_len n t HQ.out.2.1,hsz];exact Nat.le_refl _)]
      have hrn:wr.rangeAt nb 0 (t.dig.map b8):=HQ.out.2.2.2.2.2.1.range [] (t.dig.map b8) _ rfl
      have hln:(t.dig.map b8).length=32:=by simp[HQ.out.2.2.2.2.2.2]
      have htr:=HQ.out.2.2.2.2.1.r.there 0 32 (by simp)
      have HL:=hid (Qa hln hroot)
      clear hln hroot hsz hx0
      go_wp2_with (first
       |((with_reducible refine Qf 40 (.tmp 43) nb 0 _ 32 _ HL.out.1 hrn Tryz.underlying40 rfl (by kernel_rfl) ?_ ?_ ?_ ?_);rfl;rfl;rfl)
       |((with_reducible refine Qv 40 (.tmp 6) (.tmp 44) (w.heap.size+1) 0 (t.dig.map b8) 32 HL.out.1 htr (by kernel_rfl) (Qi _) ?_ ?_ ?_ ?_ ?_);rfl;rfl;rfl;rfl))
      refine QD (w.heap.size+1) 0 _ 32 _ HL.out.1 (World.rangeAt_setCells_same _ _ _ _ (by rw[HL.out.1];exact htr)) Tryz.underlying40 rfl (by kernel_rfl) rfl rfl rfl ⟨?_,Qc _ (by omega) _ _ _ HQ.out.2.2.2.2.1.bl⟩
      rw[HL.out.2]
     ·have hlt2:k<t.ht:=by omega
      have hpw:2^(k+1)≤t.size:=Nat.pow_le_pow_right (by decide) hlt2
      have hNk:=HT.out.2.1
      rw[Nat.pow_succ,←hNk] at hpw
      clear hNk
      have i1:((N:Nat):Int)< ((t.size:Nat):Int):=by omega
      cases t with
      |leaf d=>exact absurd hlt2 (by simp[MT.ht])
      |node d l r=>
       obtain⟨hd32,bl,br,hbk,hnl,hnr⟩:=HQ.out.1
       obtain⟨hol,hor,hht,hdd⟩:=HQ.out.2.1
       have hsz2:(MT.node d l r).size=2*l.size:=by unfold MT.size;simp only[MT.ht];rw[Nat.pow_succ];omega
       have hrs:r.size=l.size:=by unfold MT.size;rw[hht]
       have hll:=MT.leaves_len n l hol
       have hcall:=Qbr nb w.heap.size x (2^(l.ht+1)) d (ptr bl) (ptr br) wr HQ.out.2.2.2.2.1.a hbk hd32 (by have:(MT.node d l r).size=2^(l.ht+1):=rfl;omega) (by have:(MT.node d l r).size=2^(l.ht+1):=rfl;omega)
       have e2:2^(l.ht+1) / 2=l.size:=by have:(MT.node d l r).size=2^(l.ht+1):=rfl;omega
       have hNl:N∣l.size:=by rw[HT.out.2.1];exact Nat.pow_dvd_pow 2 (by simp only[MT.ht] at hlt2;omega)
       rw[e2] at hcall
       by_cases hx:x<l.size
       ·simp only[hx,if_true] at hcall
        have hfit:=Qfo HQ.out.2.2.1 hNl hx
        have hpt2:(l.leaves.drop x).take N=(ds.drop lo).take N:=by
         rw[← HQ.out.2.2.2.1]
         simp only[MT.leaves]
         rw[List.drop_append_of_le_length (by omega),List.take_append_of_le_length (by simp;omega)]
        have HC:=hid (Qa hcall hpt2)
        have HE:=hid (Qa hht (Qa hsz2 hrs))
        clear hcall hpt2 hht hdd hsz2 hrs hll e2
        go_wp2_with (go_at_call 210;refine HC.out.1.mono ?_;rintro e9 w9 ⟨rfl,hk9,ha9⟩;have HK:=hid (Qa hk9 ha9);clear hk9 ha9)
        go_roundg l.ht
        case measure=>simp only[MT.ht] at hgt;omega
        case rel=>
         have hht:=HE.out.1
         have hsz2:=HE.out.2.1
         have hrs:=HE.out.2.2
         have hst:=XR HK.out.1 HQ.out.2.2.2.2.1.a (by decide)
         exact⟨bl,x,l,rfl,rfl,hnl.stay hst,hol,by simp only[MT.ht] at hlt2;omega,HQ.out.2.2.1,hfit,by omega,HC.out.2,HQ.out.2.2.2.2.1.kept HK.out.1 HK.out.2⟩
       ·simp only[hx,if_false] at hcall
        have hdv:N∣x-l.size:=Nat.dvd_sub HQ.out.2.2.1 hNl
        have hpt2:(r.leaves.drop (x-l.size)).take N=(ds.drop lo).take N:=by
         rw[← HQ.out.2.2.2.1]
         simp only[MT.leaves]
         conv=>rhs;rw[List.drop_append,List.drop_eq_nil_of_le (show l.leaves.length≤x by omega),List.nil_append,hll]
        have HC:=hid (Qa hcall hpt2)
        have HE:=hid (Qa hht (Qa hsz2 hrs))
        clear hcall hpt2 hht hdd hsz2 hrs hll e2
        go_wp2_with (go_at_call 210;refine HC.out.1.mono ?_;rintro e9 w9 ⟨rfl,hk9,ha9⟩;have HK:=hid (Qa hk9 ha9);clear hk9 ha9)
        go_roundg r.ht
        case measure=>have:=HE.out.1;simp only[MT.ht] at hgt;omega
        case rel=>
         have hht:=HE.out.1
         have hsz2:=HE.out.2.1
         have hrs:=HE.out.2.2
         have hst:=XR HK.out.1 HQ.out.2.2.2.2.1.a (by decide)
         exact⟨br,x-l.size,r,rfl,rfl,hnr.stay hst,hor,by simp only[MT.ht] at hlt2;omega,hdv,by omega,by omega,HC.out.2,HQ.out.2.2.2.2.1.kept HK.out.1 HK.out.2⟩
   ·have i1:¬((lo-QX ts j:Nat):Int)< ((ts[j].size:Nat):Int):=by omega
    have hsub:IntKind.u64.wrap (((lo-QX ts j:Nat):Int)-((ts[j].size:Nat):Int))=((lo-QX ts (j+1):Nat):Int):=by
     rw[IntKind.wrap_u64,HN.out.2.2];omega
    go_upto_region 6 with fail
    go_quiet (fail)
    go_upto_region 7 with fail
    have c5q:(wr.drewN nq).cell? ⟨w.heap.size,0,none⟩=some (.int .u64 (lo-QX ts j:Nat)):=c5
    have c4q:(wr.drewN nq).cell? ⟨bs[j],34,none⟩=some (.int .u64 ts[j].size):=c4
    refine QW 6 (by kernel_rfl) (by kernel_rfl) ?_
    dsimp only[List.take_succ_cons,List.take_zero,List.drop_succ_cons,List.drop_zero]
    repeat go_big_quiet_step (fail)
    refine wpQuiet_nil ?_
    rintro _ ⟨nq2,rfl⟩
    have e0:((wr.drewN nq).drewN nq2).cell? ⟨w.heap.size,0,none⟩=some (.int .u64 (lo-QX ts j:Nat)):=c5
    have e1:((wr.drewN nq).drewN nq2).frozen? ⟨w.heap.size,0,none⟩=false:=f5
    go_wp2_with fail
    go_roundg (gk-1)
    case measure=>omega
    case rel=>
     refine⟨j+1,by omega,by go_num,by rw[HN.out.2.2];omega,?_⟩
     exact HI.out.set _ _
  ·exfalso
   obtain rfl:j=ts.length:=by omega
   have:=HT.out.1.leaves
   have h2:QX ts ts.length=ds.length:=by unfold QX;rw[List.take_length,this]
   omega
end Go.Proofs.YtpnakfeafekneaaGreatDoor
