/- Part 40 of this proof. -/
import Derived.Test.YtpnakfeafekneaaGreatDoorG39
set_option linter.unusedSimpArgs false
set_option linter.unusedVariables false
set_option maxHeartbeats 8000000
set_option maxRecDepth 100000
namespace Go.Proofs.YtpnakfeafekneaaGreatDoor
open Go.RowKit
namespace Hm
def trim (K:List UInt8)(i:Nat)(s:Nat×List (List UInt8)):List (List UInt8):=if Nib.has s.1 (Dg.digit K i) && decide (Nib.rank s.1 (Dg.digit K i)<s.2.length) then s.2.take (Nib.rank s.1 (Dg.digit K i))++s.2.drop (Nib.rank s.1 (Dg.digit K i)+1) else s.2
def path (n:Nat)(K:List UInt8)(m:List Pr):List (Nat×List (List UInt8)):=(way n K (2*n) 0 m).1.mapIdx fun i s=>(s.1,trim K i s)
theorem trim_mem {K:List UInt8}{i:Nat}{s:Nat×List (List UInt8)}{x:List UInt8}(h:x∈trim K i s):x∈s.2:=by
 unfold trim at h
 split at h
 ·rcases List.mem_append.1 h with h|h
  ·exact List.mem_of_mem_take h
  ·exact List.mem_of_mem_drop h
 ·exact h
theorem trim_len {K:List UInt8}{i:Nat}{s:Nat×List (List UInt8)}:(trim K i s).length≤s.2.length:=by
 unfold trim
 split
 ·rw[List.length_append,List.length_take,List.length_drop];omega
 ·exact Nat.le_refl _
theorem path_get {n:Nat}{K:List UInt8}{m:List Pr}(i:Nat):(path n K m)[i]?=(way n K (2*n) 0 m).1[i]?.map fun s=>(s.1,trim K i s):=by unfold path;rw[List.getElem?_mapIdx]
theorem path_fit (n:Nat)(h2:n≤32)(K:List UInt8)(m:List Pr):(path n K m).length≤2*n∧∀ s∈path n K m,Fit n s:=by
 obtain⟨h1,h3,-⟩:=way_fit n h2 K (2*n) 0 m
 refine⟨by unfold path;rw[List.length_mapIdx];exact h1,fun s hs=>?_⟩
 obtain⟨i,hi,rfl⟩:=List.getElem_of_mem hs
 have e:=path_get (n:=n) (K:=K) (m:=m) i
 rw[List.getElem?_eq_getElem hi] at e
 cases hw:(way n K (2*n) 0 m).1[i]? with
 |none=>rw[hw] at e;cases e
 |some q=>
  rw[hw] at e
  have e2:=Option.some.inj e
  rw[e2]
  obtain⟨f1,f2,f3⟩:=h3 q (List.mem_of_getElem? hw)
  exact⟨f1,Nat.le_trans trim_len f2,fun x hx=>f3 x (trim_mem hx)⟩
end Hm
theorem VS {l:List (List UInt8)}(h:∀ d∈l,d.length=32)(i:Nat):(dgs l).flatten.take (i*32)++(dgs l).flatten.drop ((i+1)*32)=(dgs (l.take i++l.drop (i+1))).flatten:=by
 rw[XT 32 _ _ (Q3 h),XU 32 _ _ (Q3 h)]
 unfold dgs
 rw[← List.map_take,←List.map_drop,List.map_append,List.flatten_append]
theorem But.sets {w:World}{g:Nat}{t:TypeId}{cs:List Value}(h:Blk w g t cs)(o:Nat)(vs:List Value):But t w (w.setCells g o vs):=
 QQ.of_kept ((Qu.refl (· =g) w).setN o vs) fun k hk t' c fz hh hne=>by
  cases hk
  unfold Blk at h
  rw[h] at hh
  cases hh
  exact hne rfl
def J7 (w:World)(A:Option Addr)(sts:List (Nat×List (List UInt8))):Prop:=∀ (i:Nat) (s:Nat×List (List UInt8)),sts[i]?=some s→∃ g o A' c',A=some ⟨g,o,none⟩∧w.rangeAt g (o+i*2) [.int .u16 s.1,.slice A' s.2.length c']∧Rd w A' (dgs s.2).flatten∧Tyd w 151 A∧Tyd w 40 A'
theorem W8 {T:TypeId→Prop}{w w':World}(h:QQ T w w'){t:TypeId}{g o:Nat}{cs:List Value}(hr:w.rangeAt g o cs)(ht:Tyd w t (some ⟨g,o,none⟩))(hT:T t):w'.rangeAt g o cs:=by
 by_cases hne:cs=[]
 ·subst hne;intro j v hj;simp at hj
 ·obtain⟨g',o',e,hr'⟩:=h.rd (Rd.of _ hr) ht hT hne
  cases e;exact hr'
theorem J7.stay {T:TypeId→Prop}{w w':World}{A:Option Addr}{sts:List (Nat×List (List UInt8))}(h:J7 w A sts)(hs:QQ T w w')(h1:T 151)(h2:T 40):J7 w' A sts:=fun i s hi=>by
 obtain⟨g,o,A',c',e,hr,hd,t1,t2⟩:=h i s hi
 refine⟨g,o,A',c',e,W8 hs hr (t:=151) (fun a ha=>?_) h1,hs.rd hd t2 h2,hs.tyd t1 h1,hs.tyd t2 h2⟩
 cases ha
 exact t1 ⟨g,o,none⟩ e
theorem J7.grown {w w':World}{A:Option Addr}{sts:List (Nat×List (List UInt8))}(h:J7 w A sts)(hb:Below w.heap.size w w'):J7 w' A sts:=h.stay (T:=fun _=>True) (QQ.of_grown hb) trivial trivial
structure Ji (w:World) (B g j:Nat) (K:List UInt8) (sts:List (Nat×List (List UInt8))) (sl:Nat→Value):Prop where
 blk:sts≠[]→∃ cur,Blk w g 151 cur∧sts.length*2≤cur.length
 bm:∀ (i:Nat) (s:Nat×List (List UInt8)),sts[i]?=some s→w.cell? ⟨g,i*2,none⟩=some (.int .u16 s.1)
 sv:∀ (i:Nat) (s:Nat×List (List UInt8)),sts[i]?=some s→w.cell? ⟨g,i*2+1,none⟩=some (sl i)
 old:∀ (i:Nat) (s:Nat×List (List UInt8)),sts[i]?=some s→j≤i→w.ownsRow B 40 32 (sl i) s.2.length (dgs s.2).flatten
 new:∀ (i:Nat) (s:Nat×List (List UInt8)),sts[i]?=some s→i<j→∃ A c,sl i= .slice A (Hm.trim K i s).length c∧Rd w A (dgs (Hm.trim K i s)).flatten∧Tyd w 40 A
 apart:∀ (i i' k:Nat),i<i'→i'<sts.length→(sl i).ownBlock=some k→(sl i').ownBlock≠some k
 ge:B≤g
theorem Ji.start {w:World}{B:Nat}{K:List UInt8}{sts:List (Nat×List (List UInt8))}{A:Option Addr}{c:Nat}{L:List (List Value)}(ho:w.ownsRow B 151 2 (.slice A sts.length c) sts.length L.flatten)(hs:QV w B L sts):
 ∃ g sl,(sts≠[]→A=some ⟨g,0,none⟩)∧Ji w B g 0 K sts sl:=by
 have hat:∀ (i:Nat) (s:Nat×List (List UInt8)),sts[i]?=some s→∃ x A' c',L[i]?=some x∧x=[.int .u16 s.1,.slice A' s.2.length c']∧w.ownsRow B 40 32 (.slice A' s.2.length c') s.2.length (dgs s.2).flatten:=fun i s hi=>by
  have hil:=(List.getElem?_eq_some_iff.1 hi).1
  have hx:L[i]?=some (L[i]'(by rw[hs.len];exact hil)):=List.getElem?_eq_getElem _
  obtain⟨A',c',e,h⟩:=hs.at_ i _ s hx hi
  exact⟨_,A',c',hx,e,h⟩
 by_cases hne:sts=[]
 ·subst hne
  exact⟨B,fun _=> .bool false,fun h=>absurd rfl h,fun h=>absurd rfl h,fun i s h=>by simp at h,fun i s h=>by simp at h,fun i s h=>by simp at h,fun i s h=>by simp at h,fun i i' k _ h=>by simp at h,Nat.le_refl _⟩
 ·obtain⟨g,c',cur,e,hm⟩:=XS ho (List.length_pos_iff.2 hne)
  cases e
  have hr:=hm.blk.takes (sts.length*2)
  rw[hm.hx] at hr
  have hrow:∀ (i:Nat) (x:List Value),L[i]?=some x→w.rangeAt g (i*2) x:=fun i x hx=>by
   obtain⟨hl,rfl⟩:=List.getElem?_eq_some_iff.1 hx
   have:=Qt hr hs.two i hl
   rwa [Nat.zero_add] at this
  refine⟨g,fun i=>(L[i]?.getD [])[1]?.getD (.bool false),fun _=>rfl,fun _=>⟨cur,hm.blk,by rw[hm.len];exact Nat.mul_le_mul_right _ hm.hc⟩,fun i s hi=>?_,fun i s hi=>?_,fun i s hi _=>?_,fun i s _ h=>absurd h (Nat.not_lt_zero _),fun i i' k h1 h2 hk=>?_,hm.hB⟩
  ·obtain⟨x,A',c',hx,rfl,h⟩:=hat i s hi
   exact hrow i _ hx 0 _ rfl
  ·obtain⟨x,A',c',hx,rfl,h⟩:=hat i s hi
   rw[hx]
   exact hrow i _ hx 1 _ rfl
  ·obtain⟨x,A',c',hx,rfl,h⟩:=hat i s hi
   show w.ownsRow B _ 32 ((L[i]?.getD [])[1]?.getD (.bool false)) _ _
   rw[hx]
   exact h
  ·have hl:=hs.len
   have e1:L[i]?=some (L[i]'(by omega)):=List.getElem?_eq_getElem _
   have e2:L[i']?=some (L[i']'(by omega)):=List.getElem?_eq_getElem _
   refine fun h=>hs.apart i i' _ _ k h1 e1 e2 ?_ ?_
   ·show ((L[i]'(by omega))[1]?.getD _).ownBlock=some k
    simpa [e1] using hk
   ·show ((L[i']'(by omega))[1]?.getD _).ownBlock=some k
    simpa [e2] using h
theorem Ji.grown {w w':World}{B g j:Nat}{K:List UInt8}{sts:List (Nat×List (List UInt8))}{sl:Nat→Value}(h:Ji w B g j K sts sl)(hb:Below w.heap.size w w'):Ji w' B g j K sts sl:=by
 have hc:∀ {p:Addr} {v:Value},w.cell? p=some v→w'.cell? p=some v:=fun {p v} hc=>by rw[hb.cell (World.block_lt_of_cell? w _ hc)];exact hc
 refine⟨fun hne=>?_,fun i s hi=>hc (h.bm i s hi),fun i s hi=>hc (h.sv i s hi),fun i s hi hj=>Qg (h.old i s hi hj) hb,fun i s hi hj=>?_,h.apart,h.ge⟩
 ·obtain⟨cur,h1,h2⟩:=h.blk hne;exact⟨cur,h1.grown hb,h2⟩
 ·obtain⟨A,c,e,h1,h2⟩:=h.new i s hi hj
  exact⟨A,c,e,h1.grown hb,h2.grown hb⟩
theorem Ji.no {w:World}{B g j:Nat}{K:List UInt8}{sts:List (Nat×List (List UInt8))}{sl:Nat→Value}(h:Ji w B g j K sts sl){s:Nat×List (List UInt8)}(hs:sts[j]?=some s)(ht:Hm.trim K j s=s.2):Ji w B g (j+1) K sts sl:=by
 refine⟨h.blk,h.bm,h.sv,fun i q hi hj=>h.old i q hi (by omega),fun i q hi hj=>?_,h.apart,h.ge⟩
 by_cases hij:i=j
 ·subst hij
  rw[hs] at hi;cases hi
  have ho:=h.old i s hs (Nat.le_refl _)
  obtain⟨A,c,e,hr,-⟩:=QC ho
  rw[ht]
  rw[e] at ho
  exact⟨A,c,e,hr,XO ho⟩
 ·exact h.new i q hi (by omega)
theorem Tyd.kept {S:Nat→Prop}{w w':World}{t:TypeId}{A:Option Addr}(h:Tyd w t A)(hk:Qu S w w')(hs:∀ a,A=some a→¬S a.block):Tyd w' t A:=fun a e=>by
 obtain⟨c,fz,hh⟩:=h a e
 refine⟨c,fz,?_⟩
 rw[hk.block _ ?_ (hs a e)]
 ·exact hh
 ·exact (Array.getElem?_eq_some_iff.1 hh).1
theorem Ji.yes {w w1:World}{B g j gk cv:Nat}{K:List UInt8}{sts:List (Nat×List (List UInt8))}{sl:Nat→Value}(h:Ji w B g j K sts sl){s:Nat×List (List UInt8)}(hs:sts[j]?=some s)(hv:(sl j).ownBlock=some gk)(hk:Qu (fun k=>(sl j).ownBlock=some k) w w1)
 (hr:Rd w1 (some ⟨gk,0,none⟩) (dgs (Hm.trim K j s)).flatten) (hty:Tyd w1 40 (some ⟨gk,0,none⟩)):
 (w1.cell? ⟨g,j*2+1,none⟩=some (sl j)∧w1.frozen? ⟨g,j*2+1,none⟩=false)∧Ji (w1.setCell ⟨g,j*2+1,none⟩ (.slice (some ⟨gk,0,none⟩) (Hm.trim K j s).length cv)) B g (j+1) K sts (fun i=>if i=j then .slice (some ⟨gk,0,none⟩) (Hm.trim K j s).length cv else sl i)∧Below B w (w1.setCell ⟨g,j*2+1,none⟩ (.slice (some ⟨gk,0,none⟩) (Hm.trim K j s).length cv))∧QQ Xr w (w1.setCell ⟨g,j*2+1,none⟩ (.slice (some ⟨gk,0,none⟩) (Hm.trim K j s).length cv))∧
   Qu (fun k=>k=gk∨k=g) w (w1.setCell ⟨g,j*2+1,none⟩ (.slice (some ⟨gk,0,none⟩) (Hm.trim K j s).length cv)):=by
 have hjl:=(List.getElem?_eq_some_iff.1 hs).1
 have hne:sts≠[]:=fun e=>by rw[e] at hs;simp at hs
 have ho:=h.old j s hs (Nat.le_refl _)
 obtain⟨cur,hb,hcl⟩:=h.blk hne
 have hgk:=ho.lt gk hv
 have hgg:(sl j).ownBlock≠some g:=Xz ho hb (by decide)
 have hgne:gk≠g:=fun e=>hgg (by rw[hv,e])
 have hb1:=hk.blk hb hgg
 have hcell:∀ {i:Nat} {v:Value},w.cell? ⟨g,i,none⟩=some v→w1.cell? ⟨g,i,none⟩=some v:=fun {i v} hc=>hk.cell hc hgg
 have hk2:Qu (fun k=>k=gk∨k=g) w (w1.setCell ⟨g,j*2+1,none⟩ (.slice (some ⟨gk,0,none⟩) (Hm.trim K j s).length cv)):=
  (hk.mono fun k _ e=> .inl (by rw[hv] at e;cases e;rfl)).setCell (.inl (.inr rfl)) _
 have hoc:∀ v∈cur,True:=fun _ _=>trivial
 have key:∀ i,i≠j→i<sts.length→∀ k,(sl i).ownBlock=some k→k≠gk:=fun i hij hil k hki e=>by
  subst e
  rcases Nat.lt_or_gt_of_ne hij with h1|h1
  ·exact h.apart i j k h1 hjl hki hv
  ·exact h.apart j i k h1 hil hv hki
 refine⟨⟨hcell (h.sv j s hs),hb1.frozen _⟩,⟨fun _=>⟨cur.set (j*2+1) _,hb1.set_ _ _,by rw[List.length_set];exact hcl⟩,fun i q hi=>?_,fun i q hi=>?_,fun i q hi hj=>?_,fun i q hi hj=>?_,fun i i' k h1 h2 hki=>?_,h.ge⟩,?_,?_,hk2⟩
 ·rw[World.cell?_setCell_other _ _ _ _ (fun e=>by have:=congrArg Addr.off e;simp at this;omega)]
  exact hcell (h.bm i q hi)
 ·by_cases hij:i=j
  ·subst hij
   rw[if_pos rfl,(hb1.set_ _ _).cell]
   rw[List.getElem?_set_self (by omega)]
  ·rw[if_neg hij,World.cell?_setCell_other _ _ _ _ (fun e=>by have:=congrArg Addr.off e;simp at this;omega)]
   exact hcell (h.sv i q hi)
 ·have hij:i≠j:=by omega
  rw[if_neg hij]
  have hil:=(List.getElem?_eq_some_iff.1 hi).1
  have hoi:=h.old i q hi (by omega)
  refine XM hoi hk2 fun k hki=>?_
  rintro(e|e)
  ·exact key i hij hil k hki e
  ·exact Xz hoi hb (by decide) (by rw[hki,e])
 ·by_cases hij:i=j
  ·subst hij
   rw[hs] at hi;cases hi
   refine⟨_,cv,if_pos rfl,hr.kept ((Qu.refl (· =g) w1).set1 _ _) (fun a e _=>by cases e;exact hgne),hty.set _ _⟩
  ·obtain⟨A,c,e,h1,h2⟩:=h.new i q hi (by omega)
   have hil:=(List.getElem?_eq_some_iff.1 hi).1
   have hS:∀ a,A=some a→¬(a.block=gk∨a.block=g):=fun a ha=>by
    rintro(e'|e')
    ·exact key i hij hil a.block (by rw[e,ha];rfl) e'
    ·obtain⟨c1,fz1,hh⟩:=h2 a ha
     rw[e'] at hh
     unfold Blk at hb
     rw[hb] at hh
     cases hh
   exact⟨A,c,by rw[if_neg hij];exact e,h1.kept hk2 (fun a ha _=>hS a ha),h2.kept hk2 hS⟩
 ·have hz:∀ i,((fun i=>if i=j then Value.slice (some ⟨gk,0,none⟩) (Hm.trim K j s).length cv else sl i) i).ownBlock=(sl i).ownBlock:=fun i=>by
   by_cases hij:i=j
   ·subst hij;simp only[if_pos];rw[hv];rfl
   ·simp only[if_neg hij]
  rw[hz] at hki
  rw[hz]
  exact h.apart i i' k h1 h2 hki
 ·exact hk2.below (by have:=h.ge;exact Nat.le_trans this (Nat.le_of_lt hb.lt)) (fun k hkB=>by
   rintro(e|e)
   ·have:=hgk.1;omega
   ·have:=h.ge;omega)
 ·refine QQ.of_kept hk2 fun k hkS t c fz hh=>?_
  rcases hkS with e|e
  ·subst e
   rcases ho.2 with ⟨e1,-⟩|⟨g',cap,cur',e1,-,hg',-⟩
   ·rw[e1] at hv;cases hv
   ·rw[e1] at hv
    cases hv
    rw[hg'] at hh
    cases hh
    decide
  ·subst e
   unfold Blk at hb
   rw[hb] at hh
   cases hh
   decide
theorem Ji.done {w:World}{B g n:Nat}{K:List UInt8}{m:List Pr}{sl:Nat→Value}{A:Option Addr}(h:Ji w B g (Hm.way n K (2*n) 0 m).1.length K (Hm.way n K (2*n) 0 m).1 sl)(hA:(Hm.way n K (2*n) 0 m).1≠[]→A=some ⟨g,0,none⟩):J7 w A (Hm.path n K m):=fun i s' hi=>by
 rw[Hm.path_get] at hi
 cases hs:(Hm.way n K (2*n) 0 m).1[i]? with
 |none=>rw[hs] at hi;cases hi
 |some s=>
  rw[hs] at hi
  cases Option.some.inj hi
  have hne:(Hm.way n K (2*n) 0 m).1≠[]:=fun e=>by rw[e] at hs;simp at hs
  obtain⟨A',c',e,hr,ht⟩:=h.new i s hs (List.getElem?_eq_some_iff.1 hs).1
  obtain⟨cur,hb,-⟩:=h.blk hne
  refine⟨g,0,A',c',hA hne,fun j v hj=>?_,hr,by rw[hA hne];exact hb.tyd,ht⟩
  have k0:=h.bm i s hs
  have k1:=h.sv i s hs
  rw[e] at k1
  match j with
  |0=>cases hj;show w.cell? ⟨g,0+i*2+0,none⟩=_;rw[Nat.zero_add,Nat.add_zero];exact k0
  |1=>cases hj;show w.cell? ⟨g,0+i*2+1,none⟩=_;rw[Nat.zero_add];exact k1
  |j+2=>simp at hj
structure Qhd (w:World) (n:Nat) (K:List UInt8) (m:List Pr) (e:Ending) (w':World):Prop where
 ex:∃ As cs Ap cp Lp,e= .returned (.tuple #[.agg #[.slice As (Hm.path n K m).length cs,.slice Ap (Hm.way n K (2*n) 0 m).2.length cp],.int .i64 0])∧Below w.heap.size w w'∧J7 w' As (Hm.path n K m)∧Rd w' Ap Lp.flatten∧Ql w' Lp (Hm.way n K (2*n) 0 m).2∧Tyd w' 166 Ap
theorem Qgj (parts:List (Nat×Value)):Tryz.prog.built 112 parts=Instr.fill ((#[(0,1),(1,1)]:Array (Nat×Nat))[·]?) ([Value.slice none 0 0,Value.slice none 0 0]).toArray parts:=by kernel_rfl
theorem Qes (A1 A2:Option Addr)(n1 c1 n2 c2:Nat):Tryz.prog.built 112 [(0,.slice A1 n1 c1),(1,.slice A2 n2 c2)]=some ([Value.slice A1 n1 c1,.slice A2 n2 c2]).toArray:=by
 rw[Qgj,QE _ _ 0 _ _ 0 1 rfl [.slice A1 n1 c1] rfl rfl (by simp),QE _ _ 1 _ _ 1 1 rfl [.slice A2 n2 c2] rfl rfl (by simp[splice])]
 rfl
theorem Qet (b n:Nat)(h1:1≤n)(h2:n≤32)(m:List Pr)(key:List UInt8)(Ak:Option Addr)(ck:Nat)(w:World)(hw:Qs w)(hm:Xl w n b m)(hk:Rd w Ak (key.map b8))(hl:key.length≤64):
 Calls Tryz.prog 59 #[ptr b,.slice Ak key.length ck] w (Qhd w n (Dg.key n key) m):=by
 have hwk:=fun (w':World) (hb:Below w.heap.size w w')=>Qgi b n h1 h2 m key Ak ck w' (hw.below hb) (hm.grown hb) (hk.grown hb) hl
 have hwi:=fun (w':World) (hb:Below w.heap.size w w')=>W4 b n m w' (hm.grown hb)
 have hky:=fun (w':World) (hb:Below w.heap.size w w')=>Qan n h1 h2 key Ak ck w' (hk.grown hb) (hw.below hb) (by omega)
 have hklen:(Dg.key n key).length=32:=Dg.sum_length n (Dg.keyIn key) h2
 have hkf:Dg.form n (Dg.key n key)=true:=Dg.form_sum _ _ h2
 have hwf:=Hm.way_fit n h2 (Dg.key n key) (2*n) 0 m
 obtain⟨E,hE⟩:∃ E,E=Hm.way n (Dg.key n key) (2*n) 0 m:=⟨_,rfl⟩
 rw[← hE] at hwf
 simp only[← hE] at hwk
 generalize hK:Dg.key n key=K at hky hklen hkf hE ⊢
 have HL:=hid (show (K.map b8).length=32 by simp[hklen])
 have HA:=hid (Qa hwk (Qa hwi (Qa hky (Qa hklen (Qa hkf (Qa hE hwf))))))
 have hnl:¬(64:Int)< (key.length:Int):=by omega
 have HB0:=hid (Qa (Blk.new w 112 [.slice none 0 0,.slice none 0 0]) (Qb w (.cells [Value.slice none 0 0,.slice none 0 0].toArray 112)))
 clear hwk hwi hky hklen hkf hE hwf hw hm hk hK
 go_enter Tryz.func59,Tryz.ntmps59
 go_upto_region 1 with fail
 refine Qe (fun w'=>Blk w' w.heap.size 112 [.slice none 0 0,.slice none 0 0]∧Below w.heap.size w w') HB0.out ?_
 rintro w1 ⟨hb1,hbl⟩
 have HB:=hid (Qa hb1 hbl)
 clear hb1 hbl HB0
 go_upto_region 8 with (first
  |(go_at_call 86
    refine (HA.out.1 _ HB.out.2).mono ?_
    rintro e w2 ⟨As,cs,Ap,cp,Ls,Lp,rfl,hb2,ho2,hs2,hr2,hp2,ht2⟩
    have H2:=hid (Qa hb2 (Qa ho2 (Qa hs2 (Qa hr2 (Qa hp2 ht2)))))
    have h12:=hid (gro HB.out.2 hb2)
    clear hb2 ho2 hs2 hr2 hp2 ht2)
  |(go_at_call 87
    refine (HA.out.2.1 _ h12.out).mono ?_
    rintro e w3 ⟨rfl,rfl⟩)
  |(go_at_call 88
    refine (HA.out.2.2.1 _ h12.out).mono ?_
    rintro e w3 ⟨rfl,hb3⟩
    have H3:=hid hb3
    clear hb3)
  |((with_reducible refine Qw 40 (.tmp 10) (.tmp 37) _ _ (K.map b8) 32 HL.out ?_ (by kernel_rfl) (Qi _) ?_ ?_ ?_ ?_ ?_);rfl;rfl;rfl;rfl;rfl))
 refine Qe (fun w'=>Below w2.heap.size w2 w'∧w'.rangeAt w3.heap.size 0 (K.map b8)) ⟨gro H3.out (Qb _ _),(Blk.new w3 _ _).whole⟩ ?_
 rintro w4 ⟨hb4,hr4⟩
 obtain⟨g,sl,hAs,hpa⟩:=Ji.start (K:=K) H2.out.2.1 H2.out.2.2.1
 obtain⟨t,ht⟩:∃ t,t=E.1.length:=⟨_,rfl⟩
 obtain⟨kp,hkp⟩:∃ kp,kp=E.2.length:=⟨_,rfl⟩
 rw[← ht,←hkp]
 have hgl0:g<w3.heap.size∨E.1=[]:=by
  by_cases hne:E.1=[]
  ·exact .inr hne
  ·obtain⟨cur,hb,-⟩:=hpa.blk hne
   exact .inl (Nat.lt_of_lt_of_le hb.lt H3.out.size)
 have hlo0:∀ (i:Nat) (s:Nat×List (List UInt8)),E.1[i]?=some s→∀ k,(sl i).ownBlock=some k→k<w3.heap.size:=fun i s hi k hk=>Nat.lt_of_lt_of_le ((hpa.old i s hi (Nat.zero_le _)).lt k hk).2 H3.out.size
 have HC:=hid (Qa hb4 (Qa hr4 (Qa hAs (Qa (hpa.grown hb4) (Qa ht (Qa hkp (Qa hgl0 hlo0)))))))
 clear hb4 hr4 hAs hpa ht hkp hgl0 hlo0
 go_wp2_with fail
 go_loopg [45] t (fun g' x wr=>∃ (j:Nat) (sl:Nat→Value),j+g'=t∧x= .int .i64 j∧Ji wr w1.heap.size g j K E.1 sl∧Below w1.heap.size w1 wr∧QQ Xr w4 wr∧wr.rangeAt w3.heap.size 0 (K.map b8)∧∀ (i:Nat) (s:Nat×List (List UInt8)),E.1[i]?=some s→∀ k,(sl i).ownBlock=some k→k<w3.heap.size)
 case atStart=>exact⟨0,sl,by omega,rfl,HC.out.2.2.2.1,H2.out.1.trans (HC.out.1.mono H2.out.1.size),QQ.of_grown (Below.refl _ _),HC.out.2.1,HC.out.2.2.2.2.2.2.2⟩
 case round=>
  obtain⟨j,sl',hj,rfl,hpa,hbl,hst,hr7,hlo⟩:=hrel
  by_cases hlt:j<t
  ·have hjl:j<E.1.length:=by rw[← HC.out.2.2.2.2.1];exact hlt
   have hs:E.1[j]?=some E.1[j]:=List.getElem?_eq_getElem hjl
   obtain⟨s,hse⟩:∃ s,s=E.1[j]:=⟨_,rfl⟩
   rw[← hse] at hs
   obtain rfl:As=some ⟨g,0,none⟩:=HC.out.2.2.1 (fun e=>by rw[e] at hjl;simp at hjl)
   obtain⟨hf1,hf2,hf3⟩:=HA.out.2.2.2.2.2.2.2.1 s (List.mem_of_getElem? hs)
   have hown:=hpa.old j s hs (Nat.le_refl _)
   obtain⟨Ak2,c2,hsl,-,-⟩:=QC hown
   have hat:=Qgo n h1 h2 K HA.out.2.2.2.1 HA.out.2.2.2.2.1 j (by have:=HA.out.2.2.2.2.2.2.1;have:=HC.out.2.2.2.2.1;omega) wr
   have hdl:Dg.digit K j<16:=Dg.digit_lt _ _
   have ht64:t≤64:=by have:=HA.out.2.2.2.2.2.2.1;have:=HC.out.2.2.2.2.1;omega
   have htr:Hm.trim K j s=if Nib.has s.1 (Dg.digit K j) && decide (Nib.rank s.1 (Dg.digit K j)<s.2.length) then s.2.take (Nib.rank s.1 (Dg.digit K j))++s.2.drop (Nib.rank s.1 (Dg.digit K j)+1) else s.2:=rfl
   have hno:=hpa.no hs
   obtain⟨bm,hbm⟩:∃ bm,bm=s.1:=⟨_,rfl⟩
   obtain⟨kn,hkn⟩:∃ kn,kn=s.2.length:=⟨_,rfl⟩
   have kb:=hpa.bm j s hs
   have kv:=hpa.sv j s hs
   rw[hsl] at kv hown
   rw[← hbm] at hf1 htr kb
   rw[← hkn] at hf2 htr kv hown
   generalize hd:Dg.digit K j=d at hat hdl htr
   obtain⟨r,hr⟩:∃ r,r=Nib.rank bm d:=⟨_,rfl⟩
   obtain⟨q,hq⟩:∃ q,q=Nib.has bm d:=⟨_,rfl⟩
   rw[← hr,←hq] at htr
   have HP:=hid (Qa hat (Qa hpa (Qa hbl (Qa hst (Qa hr7 (Qa hs (Qa hown (Qa hsl (Qa hno (Qa htr (Qa hf3 (Qa hkn hlo))))))))))))
   have HR:=hid (Qa hr hq)
   clear hlo hat hpa hbl hst hown hsl hno htr hs hse hd hbm hkn hjl hf3 hr hq
   have hgl:=World.block_lt_of_cell? wr _ kb
   by_cases hc:q=true∧r<kn
   ·obtain⟨rfl,hrk⟩:=hc
    have htr:=HP.out.2.2.2.2.2.2.2.2.2.1
    rw[if_pos (by simp[hrk])] at htr
    have HT:=hid htr
    clear htr
    have hri:(r:Int)< (kn:Int):=by omega
    have hwr:IntKind.i64.wrap ((r:Int)+1)=(r:Int)+1:=by rw[IntKind.wrap_i64];omega
    go_upto_region 19 with (first
     |((with_reducible refine Qf 40 (.tmp 10) w3.heap.size 0 _ 32 _ HL.out hr7 Tryz.underlying40 rfl (by kernel_rfl) ?_ ?_ ?_ ?_);rfl;rfl;rfl)
     |(go_at_call 89
       refine HP.out.1.mono ?_
       rintro e w5 ⟨rfl,hb5⟩
       have kb5:w5.cell? ⟨g,j*2,none⟩=some (.int .u16 bm):=by rw[hb5.cell (p:=⟨g,j*2,none⟩) hgl];exact kb
       have kv5:w5.cell? ⟨g,j*2+1,none⟩=some (.slice Ak2 kn c2):=by rw[hb5.cell (p:=⟨g,j*2+1,none⟩) hgl];exact kv
       have H5:=hid hb5;clear hb5 kb kv)
     |(go_at_call 90
       refine (XP bm d hf1 hdl _).mono ?_
       rw[← HR.out.1]
       rintro e w6 ⟨rfl,hb6⟩
       have hgl5:=World.block_lt_of_cell? w5 _ kb5
       have kb6:w6.cell? ⟨g,j*2,none⟩=some (.int .u16 bm):=by rw[hb6.cell (p:=⟨g,j*2,none⟩) hgl5];exact kb5
       have kv6:w6.cell? ⟨g,j*2+1,none⟩=some (.slice Ak2 kn c2):=by rw[hb6.cell (p:=⟨g,j*2+1,none⟩) hgl5];exact kv5
       have H6:=hid (gro H5.out hb6);clear hb6 kb5 kv5)
     |(go_at_call 91
       refine (XD bm d hf1 hdl _).mono ?_
       rw[← HR.out.2]
       rintro e w7 ⟨rfl,rfl⟩))
    have hdel:=W6 w1.heap.size kn r (.slice Ak2 kn c2) _ w6 (Qg HP.out.2.2.2.2.2.2.1 H6.out) (fun u hu=>by
     obtain⟨x,hx,hu⟩:=List.mem_flatten.1 hu
     obtain⟨y,hy,rfl⟩:=List.mem_map.1 hx
     exact Qi y u hu) (by omega) hrk (gro HP.out.2.2.1 H6.out).size
    have HD:=hid hdel
    clear hdel
    go_wp2_with (
     (go_at_call 92
      refine HD.out.mono ?_
      rintro e w8 ⟨gk,cv,he,rfl,hr8,hk8,ht8⟩
      obtain⟨rfl,rfl⟩:Ak2=some ⟨gk,0,none⟩∧cv=c2:=by cases he;exact⟨rfl,rfl⟩
      have hlt8:(Hm.trim K j s).length=kn-1:=by rw[HT.out,List.length_append,List.length_take,List.length_drop,←HP.out.2.2.2.2.2.2.2.2.2.2.2.1];omega
      have hrow:(dgs s.2).flatten.take (r*32)++(dgs s.2).flatten.drop ((r+1)*32)=(dgs (Hm.trim K j s)).flatten:=by rw[VS (fun x hx=>(HP.out.2.2.2.2.2.2.2.2.2.2.1 x hx).1),HT.out]
      rw[hrow] at hr8
      have hys:=Ji.yes (cv:=cv) (gk:=gk) (HP.out.2.1.grown H6.out) HP.out.2.2.2.2.2.1 (by rw[HP.out.2.2.2.2.2.2.2.1];rfl) (by rw[HP.out.2.2.2.2.2.2.2.1];exact hk8) hr8 ht8
      rw[hlt8,HP.out.2.2.2.2.2.2.2.1] at hys
      have k9:=hys.1.1
      have f9:=hys.1.2
      have HY:=hid hys.2
      clear hr8 hk8 ht8 hlt8 hrow hys kb6 kv6))
    go_roundg (t-(j+1))
    case measure=>omega
    case rel=>
     have hst9:=HP.out.2.2.2.1.trans ((QQ.of_grown H6.out).trans HY.out.2.2.1)
     have hbl9:=(gro HP.out.2.2.1 H6.out).trans HY.out.2.1
     have hgl3:g<w3.heap.size:=by
      rcases HC.out.2.2.2.2.2.2.1 with h|h
      ·exact h
      ·have:=HP.out.2.2.2.2.2.1;rw[h] at this;simp at this
     have hgk3:gk<w3.heap.size:=HP.out.2.2.2.2.2.2.2.2.2.2.2.2 j s HP.out.2.2.2.2.2.1 gk (by rw[HP.out.2.2.2.2.2.2.2.1];rfl)
     refine⟨j+1,_,by omega,by go_num,HY.out.1,hbl9,hst9,HY.out.2.2.2.range (Qm HP.out.2.2.2.2.1 H6.out) (by rintro(e|e)<;>omega),?_⟩
     intro i q hi k hk
     by_cases hij:i=j
     ·rw[if_pos hij] at hk
      cases hk
      exact hgk3
     ·rw[if_neg hij] at hk
      exact HP.out.2.2.2.2.2.2.2.2.2.2.2.2 i q hi k hk
   ·have htr:=HP.out.2.2.2.2.2.2.2.2.2.1
    rw[if_neg (by simpa using hc)] at htr
    have hpn:=HP.out.2.2.2.2.2.2.2.2.1 htr
    have HT:=hid hpn
    clear htr hpn
    have hrn:q=true→¬(r:Int)< (kn:Int):=fun e h=>hc ⟨e,by omega⟩
    clear hc
    cases q
    all_goals
     try have hri:=hrn rfl
     clear hrn
     go_wp2_with (first
      |((with_reducible refine Qf 40 (.tmp 10) w3.heap.size 0 _ 32 _ HL.out hr7 Tryz.underlying40 rfl (by kernel_rfl) ?_ ?_ ?_ ?_);rfl;rfl;rfl)
      |(go_at_call 89
        refine HP.out.1.mono ?_
        rintro e w5 ⟨rfl,hb5⟩
        have kb5:w5.cell? ⟨g,j*2,none⟩=some (.int .u16 bm):=by rw[hb5.cell (p:=⟨g,j*2,none⟩) hgl];exact kb
        have kv5:w5.cell? ⟨g,j*2+1,none⟩=some (.slice Ak2 kn c2):=by rw[hb5.cell (p:=⟨g,j*2+1,none⟩) hgl];exact kv
        have H5:=hid hb5;clear hb5 kb kv)
      |(go_at_call 90
        refine (XP bm d hf1 hdl _).mono ?_
        rw[← HR.out.1]
        rintro e w6 ⟨rfl,hb6⟩
        have hgl5:=World.block_lt_of_cell? w5 _ kb5
        have kb6:w6.cell? ⟨g,j*2,none⟩=some (.int .u16 bm):=by rw[hb6.cell (p:=⟨g,j*2,none⟩) hgl5];exact kb5
        have kv6:w6.cell? ⟨g,j*2+1,none⟩=some (.slice Ak2 kn c2):=by rw[hb6.cell (p:=⟨g,j*2+1,none⟩) hgl5];exact kv5
        have H6:=hid (gro H5.out hb6);clear hb6 kb5 kv5)
      |(go_at_call 91
        refine (XD bm d hf1 hdl _).mono ?_
        rw[← HR.out.2]
        rintro e w7 ⟨rfl,rfl⟩))
     go_roundg (t-(j+1))
     case measure=>omega
     case rel=>exact⟨j+1,sl',by omega,by go_num,HT.out.grown H6.out,gro HP.out.2.2.1 H6.out,HP.out.2.2.2.1.trans (QQ.of_grown H6.out),Qm HP.out.2.2.2.2.1 H6.out,HP.out.2.2.2.2.2.2.2.2.2.2.2.2⟩
  ·obtain rfl:j=t:=by omega
   have hkb:=HB.out.1.below hbl HB.out.1.lt
   have hE:=HA.out.2.2.2.2.2.1
   have hdone:J7 wr As (Hm.path n K m):=by
    have hjE:=HC.out.2.2.2.2.1
    have hpa2:=hpa
    rw[hjE,hE] at hpa2
    exact Ji.done hpa2 (by rw[← hE];exact HC.out.2.2.1)
   have hrp:=hst.rd (H2.out.2.2.2.1.grown HC.out.1) (H2.out.2.2.2.2.2.grown HC.out.1) (by decide)
   have hpp:=(H2.out.2.2.2.2.1.grown HC.out.1).stay hst
   have htp:=hst.tyd (H2.out.2.2.2.2.2.grown HC.out.1) (by decide)
   have hth:=hkb.there 0 2 (Nat.le_refl _)
   have hoc:∀ v∈[Value.slice As j cs,.slice Ap kp cp],v.oneCell'=true:=fun v hv=>by
    simp only[List.mem_cons,List.not_mem_nil,or_false] at hv
    rcases hv with rfl|rfl<;>rfl
   have hzb:=Qes As Ap j cs kp cp
   have hbs:=But.sets hkb 0 [Value.slice As j cs,.slice Ap kp cp]
   have HF:=hid (Qa (hdone.stay hbs (by decide) (by decide)) (Qa (hbs.rd hrp htp (by decide)) (Qa (hpp.stay (Js hkb (by decide) 0 [Value.slice As j cs,.slice Ap kp cp])) (Qa (hbs.tyd htp (by decide)) (HB.out.2.trans (hbl.mono HB.out.2.size))))))
   clear hpa hbl hst hr7 hlo hkb hE hdone hrp hpp htp hbs
   go_wp2_with (first
    |((with_reducible refine Za 112 #[(0,.tmp 95),(1,.tmp 96)] [.slice As j cs,.slice Ap kp cp] ?_ ?_ ?_ ?_);rfl;rfl;exact hzb)
    |((with_reducible refine Qv 112 (.tmp 4) (.tmp 97) w.heap.size 0 [.slice As j cs,.slice Ap kp cp] 2 rfl hth (by kernel_rfl) hoc ?_ ?_ ?_ ?_ ?_);rfl;rfl;rfl;rfl))
   refine Q9 w.heap.size 0 [.slice As j cs,.slice Ap kp cp] 2 _ rfl (World.rangeAt_setCells_same _ _ _ _ hth) Tryz.underlying112 rfl (by kernel_rfl) rfl rfl rfl ?_
   have hpl:(Hm.path n K m).length=j:=by unfold Hm.path;rw[List.length_mapIdx,←HA.out.2.2.2.2.2.1,HC.out.2.2.2.2.1]
   refine⟨As,cs,Ap,cp,Lp,by rw[hpl,←HA.out.2.2.2.2.2.1,←HC.out.2.2.2.2.2.1];rfl,Qc _ (Nat.le_refl _) _ _ _ HF.out.2.2.2.2,HF.out.1,HF.out.2.1,?_,HF.out.2.2.2.1⟩
   rw[← HA.out.2.2.2.2.2.1]
   exact HF.out.2.2.1
theorem Qh1 {P:Program}{ops:Array Oper}{rest:List Oper}{op:Oper}{a:Act}{w:World}{Q:Exit→Act→World→Prop}(ty:TypeId)(x:Operand)(b o:Nat)(cs:List Value)(n:Nat)(d:TypeDesc)(hl:cs.length=n)(hc:w.rangeAt b o cs)
 (hu:P.underlying ty=some d) (hd:d.isRow=true) (hi:(P.info? ty).map (·.size)=some n) (hgd:Region.wanted op (yielded ops a.tmps)=true) (ho:op.op= .load ty x) (hx:a.eval x= .pointer (some ⟨b,o,none⟩))
 (h:wpList P ops Q rest (a.put op.dst (.agg cs.toArray)) w):wpList P ops Q (op :: rest) a w:=
 wpList_step fun _ hK=>by rw[if_pos hgd];exact wp_load_mid ty x ho b o hx cs d hc hu hd (by rw[hl];exact hi) (hK _ _ h)
def Rt.bytes (n:Nat)(r:Rt):List UInt8:=Wi.wide r.size 8++r.log.take n++r.map.take n
theorem Qeu (n:Nat)(h1:1≤n)(h2:n≤32)(w:World):
 Calls Tryz.prog 211 #[.int .i64 n] w fun e w'=>e= .returned (.int .i64 0)∧w=w':=by
 have i1:¬(n:Int)<1:=by omega
 have i2:¬(32:Int)< (n:Int):=by omega
 go_enter Tryz.func211,Tryz.ntmps211
 go_wp2_with fail
 go_ret
 exact⟨rfl,rfl⟩
theorem Qev (n:Nat)(h1:1≤n)(h2:n≤32)(r:Rt)(w:World)(hf:Zy n r):
 Calls Tryz.prog 189 #[.int .i64 n,.agg (Qd r).toArray] w fun e w'=>∃ A c,e= .returned (.tuple #[.slice A (Rt.bytes n r).length c,.int .i64 0])∧Below w.heap.size w w'∧Rd w' A ((Rt.bytes n r).map b8):=by
 have hl:(r.log.map b8).length=32:=by simp[hf.log.1]
 have hr:(r.map.map b8).length=32:=by simp[hf.map.1]
 have HF:=hid hf
 have HLl:=hid hl
 have HLr:=hid hr
 have hbk:Blk (w.alloc (.cells (Qd r).toArray 42)) w.heap.size 42 (Qd r):=Blk.new w _ _
 have hbl0:=Qb w (.cells (Qd r).toArray 42)
 obtain⟨z,lg,mp⟩:=r
 simp only[] at hl hr HLl HLr HF
 clear hf hl hr
 go_enter Tryz.func189,Tryz.ntmps189
 go_upto_region 1 with fail
 refine Qe (fun w'=>Blk w' w.heap.size 42 (Qd ⟨z,lg,mp⟩)∧Below w.heap.size w w') ⟨hbk,hbl0⟩ ?_
 clear hbk hbl0
 rintro w1 ⟨hb1,hbl1⟩
 have p1:w1.rangeAt w.heap.size 1 (lg.map b8):=hb1.range [.int .u64 z] (lg.map b8) (mp.map b8) rfl
 have HR:=hid (Qa hb1 (Qa hbl1 p1))
 have hs1:=QH (P:=Tryz.prog) Tryz.underlying40 (by kernel_rfl) w.heap.size 1 n h2
 have hs2:=QH (P:=Tryz.prog) Tryz.underlying40 (by kernel_rfl) w.heap.size 33 n h2
 clear hb1 hbl1
 go_upto_region 7 with (first
  |(go_at_call 211
    refine (Qeu n h1 h2 _).mono ?_
    rintro e w2 ⟨rfl,rfl⟩)
  |((with_reducible refine Qf 40 (.tmp 14) w.heap.size 1 _ 32 _ HLl.out HR.out.2.2 Tryz.underlying40 rfl (by kernel_rfl) ?_ ?_ ?_ ?_);rfl;rfl;rfl)
  |((with_reducible refine Qh1 40 (.tmp 20) w.heap.size 33 _ 32 _ HLr.out p2 Tryz.underlying40 rfl (by kernel_rfl) ?_ ?_ ?_ ?_);rfl;rfl;rfl)
  |(go_at_call 119
    have hq2:=p2
    clear hq2
    refine (Z5 n mp h1 h2 HF.out.map.1 _).mono ?_
    rw[show Dg.form n mp=true from HF.out.map.2]
    rintro e w3 ⟨rfl,hb⟩
    have H3:=hid (gro H2.out hb);clear hb p2)
  |(go_at_call 119
    refine (Z5 n lg h1 h2 HF.out.log.1 _).mono ?_
    rw[show Dg.form n lg=true from HF.out.log.2]
    rintro e w2 ⟨rfl,hb⟩
    have p2:w2.rangeAt w.heap.size 33 (mp.map b8):=(by
     have:=(HR.out.1.grown hb).range (.int .u64 z :: lg.map b8) (mp.map b8) [] (by simp[Qd])
     rwa [show (Value.int .u64 (z:Nat) :: lg.map b8).length=33 by simp[HLl.out]] at this)
    have H2:=hid hb;clear hb p1))
 have hwr:=Wr.new w3
 refine Qe (fun w'=>Wr w3.heap.size w3.heap.size w3 w' []) hwr ?_
 rintro w4 hr
 have HW:=hid hr
 have HQ:=hid (HR.out.1.grown H3.out)
 have k0:w4.cell? ⟨w.heap.size,0,none⟩=some (.int .u64 z):=by rw[(HQ.out.grown hr.bl).cell];rfl
 clear hr hwr
 have htl:(lg.take n).length=n:=by have:=HLl.out;simp at this ⊢;omega
 have htr:(mp.take n).length=n:=by have:=HLr.out;simp at this ⊢;omega
 have hwl:=Wi.wide_length z 8
 have hfl:(Rt.bytes n ⟨z,lg,mp⟩).length<17592186044416:=by simp[Rt.bytes,Wi.wide_length];omega
 have HNL:=hid hfl
 clear hfl
 have HT:=hid (Qa htl (Qa htr hwl))
 clear htl htr hwl
 go_wp2_with (first
  |(go_at_call 127
    refine (Qgn z HW.out (by simp)).mono ?_
    rintro e w5 ⟨rfl,h⟩
    have HV:=hid h
    clear h k0)
  |(go_at_call 128
    refine (JB (mp.take n) n (some ⟨w.heap.size,33,none⟩) 32 HX.out HT.out.2.1 ?_ (by have:=HT.out.1;have:=HT.out.2.1;have:=HT.out.2.2;simp at *;omega)).mono ?_
    ·rw[List.map_take]
     refine Rd.take (Rd.of _ ?_) n
     have:=(HQ.out.grown HX.out.bl).range (.int .u64 z :: lg.map b8) (mp.map b8) [] (by simp[Qd])
     rwa [show (Value.int .u64 (z:Nat) :: lg.map b8).length=33 by simp[HLl.out]] at this
    rintro e w7 ⟨rfl,h⟩
    have HY:=hid h
    clear h)
  |(go_at_call 128
    refine (JB (lg.take n) n (some ⟨w.heap.size,1,none⟩) 32 HV.out HT.out.1 ?_ (by have:=HT.out.1;have:=HT.out.2.2;simp at *;omega)).mono ?_
    ·rw[List.map_take];exact Rd.take (Rd.of _ ((HQ.out.grown HV.out.bl).range [.int .u64 z] (lg.map b8) (mp.map b8) rfl)) n
    rintro e w6 ⟨rfl,h⟩
    have HX:=hid h
    clear h)
  |(go_at_call 112
    have el:[]++Wi.wide z 8++lg.take n++mp.take n=Rt.bytes n ⟨z,lg,mp⟩:=by simp[Rt.bytes]
    have hY:=HY.out
    rw[el] at hY
    refine (Zm hY HNL.out).mono ?_
    rintro e w8 ⟨A,c,rfl,h1,h2,h3,h4⟩
    have HZ:=hid (Qa h1 h3)
    clear h1 h2 h3 h4 hY el))
 go_ret2
 exact⟨A,c,rfl,gro HR.out.2.1 (gro H3.out HZ.out.1),HZ.out.2⟩
theorem UY (n:Nat)(h1:1≤n)(h2:n≤32)(r:Rt)(w:World)(hf:Zy n r):
 Calls Tryz.prog 133 #[.int .i64 n,.agg (Qd r).toArray] w fun e w'=>∃ A c,e= .returned (.slice A (Rt.bytes n r).length c)∧Below w.heap.size w w'∧Rd w' A ((Rt.bytes n r).map b8):=by
 have hrl:(Qd r).length=65:=by simp[Qd,hf.log.1,hf.map.1]
 have hin:=fun (w':World)=>Qev n h1 h2 r w' hf
 obtain⟨R,hR⟩:∃ R,R=Qd r:=⟨_,rfl⟩
 simp only[← hR] at hrl hin
 rw[← hR]
 have HI:=hid hin
 clear hf hR hin
 have HB0:=hid (Qa (Blk.new w 42 R) (Qb w (.cells R.toArray 42)))
 go_enter Tryz.func133,Tryz.ntmps133
 go_upto_region 1 with fail
 refine Qe (fun w'=>Blk w' w.heap.size 42 R∧Below w.heap.size w w') HB0.out ?_
 rintro w1 hh
 have HR:=hid hh
 clear hh HB0
 go_wp2_with (first
  |((with_reducible refine Qf 42 (.tmp 3) w.heap.size 0 R 65 _ hrl HR.out.1.whole Tryz.underlying42 rfl (by kernel_rfl) ?_ ?_ ?_ ?_);rfl;rfl;rfl)
  |(go_at_call 189
    refine (HI.out w1).mono ?_
    rintro e w2 ⟨A,c,rfl,hb,hr⟩
    have HV:=hid (Qa hb hr);clear hb hr))
 go_ret
 exact⟨A,c,rfl,gro HR.out.2 HV.out.1,HV.out.2⟩
theorem UZ (n:Nat)(h1:1≤n)(h2:n≤32)(w:World):
 Calls Tryz.prog 185 #[.int .i64 n] w fun e w'=>e= .returned (.bool true)∧w=w':=by
 have i1:(1:Int)≤(n:Int):=by omega
 have i2:(n:Int)≤32:=by omega
 go_enter Tryz.func185,Tryz.ntmps185
 go_wp2_with fail
 go_ret
 exact⟨rfl,rfl⟩
theorem Zq (x:Nat)(e:Int)(q:Bool)(h:q=false∨e=0)(w:World):
 Calls Tryz.prog 187 #[ptr x,.int .i64 e,.bool q] w fun e' w'=>e'= .returned (.tuple #[])∧w=w':=by
 cases q with
 |false=>
  clear h
  go_enter Tryz.func187,Tryz.ntmps187
  go_wp2_with fail
  go_end0
  exact⟨rfl,rfl⟩
 |true=>
  obtain rfl:e=0:=h.resolve_left (by decide)
  go_enter Tryz.func187,Tryz.ntmps187
  go_wp2_with fail
  go_end0
  exact⟨rfl,rfl⟩
theorem ZE (x n:Nat)(h1:1≤n)(h2:n≤32)(A:Option Addr)(k c:Nat)(ds:List (List UInt8))(w:World)(hk:ds.length=k)(hA:Rd w A (dgs ds).flatten)(hf:XZ n ds)(hn:k<1048576):
 Calls Tryz.prog 186 #[ptr x,.int .i64 n,.slice A k c] w fun e w'=>e= .returned (.tuple #[])∧Below w.heap.size w w':=by
 have HA:=hid (Qa hk (Qa hA hf))
 clear hk hA hf
 go_enter Tryz.func186,Tryz.ntmps186
 go_wp2_with fail
 go_loopg [10] k (fun g i wr=>∃ (j:Nat),j+g=k∧i= .int .i64 j∧Below w.heap.size w wr)
 case atStart=>exact⟨0,by omega,rfl,Below.refl _ _⟩
 case round=>
  obtain⟨j,hj,rfl,hbl⟩:=hrel
  by_cases hlt:j<k
  ·have hjd:j<ds.length:=by rw[HA.out.1];exact hlt
   obtain⟨d,hd⟩:∃ d,d=ds[j]:=⟨_,rfl⟩
   obtain⟨hdl,hdf⟩:=HA.out.2.2 d (by rw[hd];exact List.getElem_mem hjd)
   have hfl:=Q3 fun d hd=>(HA.out.2.2 d hd).1
   obtain⟨g,o,rfl,hr⟩:=HA.out.2.1 (fun e=>by
    have:=Qk 32 _ hfl
    rw[e] at this;simp[dgs] at this;omega)
   have hp:=Qt hr hfl j (by simp[dgs];exact hjd)
   rw[show (dgs ds)[j]'(by simp[dgs];exact hjd)=d.map b8 by simp[dgs,hd]] at hp
   have hp:=Qh hp hbl (Qo hp (by simp[hdl]))
   have HL:=hid (show (d.map b8).length=32 by simp[hdl])
   have hbx:=Qb wr (.cells (d.map b8).toArray 40)
   have hrx:(wr.alloc (.cells (d.map b8).toArray 40)).rangeAt wr.heap.size 0 (d.map b8):=(Blk.new wr _ _).whole
   have HB:=hid (Qa (gro hbl hbx) (Qa hdl hdf))
   clear hbl hbx hd hfl hdl hdf hr
   go_wp2_with (first
    |((with_reducible refine Qf 40 (.tmp 12) g (o+j*32) _ 32 _ HL.out hp Tryz.underlying40 rfl (by kernel_rfl) ?_ ?_ ?_ ?_);rfl;rfl;rfl)
    |((with_reducible refine Qf 40 (.tmp 7) wr.heap.size 0 _ 32 _ HL.out hrx Tryz.underlying40 rfl (by kernel_rfl) ?_ ?_ ?_ ?_);rfl;rfl;rfl)
    |((with_reducible refine Qw 40 (.tmp 7) (.tmp 13) _ _ (d.map b8) 32 HL.out ?_ (by kernel_rfl) (Qi _) ?_ ?_ ?_ ?_ ?_);rfl;rfl;rfl;rfl;rfl)
    |(go_at_call 119
      refine (Z5 n d h1 h2 HB.out.2.1 _).mono ?_
      rw[HB.out.2.2]
      rintro e w3 ⟨rfl,hb⟩
      have H3:=hid (gro HB.out.1 hb);clear hb)
    |(go_at_call 187
      refine (Zq x 3 false (.inl rfl) _).mono ?_
      rintro e w4 ⟨rfl,rfl⟩))
   go_roundg (k-(j+1))
   case measure=>omega
   case rel=>exact⟨j+1,by omega,by go_num,H3.out⟩
  ·obtain rfl:j=k:=by omega
   have HB:=hid hbl
   clear hbl
   go_wp2_with fail
   go_end0
   exact⟨rfl,HB.out⟩
end Go.Proofs.YtpnakfeafekneaaGreatDoor
