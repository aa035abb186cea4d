/- Part 21 of this proof. -/
import Derived.Lib.Overlaps
import Derived.Lib.AppendZerosOnto
import Derived.Test.YtpnakfeafekneaaGreatDoorG20
set_option linter.unusedSimpArgs false
set_option linter.unusedVariables false
set_option maxHeartbeats 8000000
set_option maxRecDepth 100000
namespace Go.Proofs.YtpnakfeafekneaaGreatDoor
open Go.RowKit
section
variable {P:Program}
theorem Blk.shape {w:World}{g:Nat}{t:TypeId}{cs:List Value}(h:Blk w g t cs):w.shape? g=some (t,cs.length):=by
 unfold Blk at h
 simp[World.shape?,h]
theorem YK {dT sT elem:TypeId}{size:Nat}(hu:P.underlying dT=some (.slice elem))(hs:(P.info? elem).map (·.size)=some size)(w:World)(ty:TypeId)(g o dLen dCap:Nat)(a:Addr)(sLen sCap k:Nat)(cs:List Value)(hk:Nat.min sLen dLen=k)(hn:cs.length=k*size)
 (hsrc:∀ j v,cs[j]?=some v→w.cell? (a.add j)=some v) (ht:w.there g o cs.length) (h1:∀ v∈cs,v.oneCell'=true):
 (Builtin.copy_ #[dT,sT] ty #[.slice (some ⟨g,o,none⟩) dLen dCap,.slice (some a) sLen sCap]).run P w= .ok (.int .i64 k) (w.setCells g o cs):=by
 have hl:=run_loadCells_list (P:=P) w a cs hsrc
 have hst:=run_storeCells_cells (P:=P) g o cs 0 w (fun j hj=>by rw[Nat.add_zero];exact (ht j hj).1) (fun j hj=>by rw[Nat.add_zero];exact (ht j hj).2) h1
 rw[hn] at hl
 cases hq:P.info? elem with
 |none=>simp[hq] at hs
 |some i=>
  have hi:i.size=size:=by simpa [hq] using hs
  simp[Builtin.copy_,run_underlying hu,Builtin.lenOf,Builtin.firstCells,sizeOf,typeInfo,hq,hi,hk,hl,hst,goInt]
theorem ZC {ops:Array Oper}{rest:List Oper}{o:Oper}{a:Act}{w:World}{Q:Exit→Act→World→Prop}(hgd:o.guard=none)(d s:Operand)(dT sT elem:TypeId)(size:Nat)
 (ho:o.op= .call {callee:= .builtin .copy,args:= #[d,s],argTypes:= #[dT,sT]}) (hu:P.underlying dT=some (.slice elem)) (hs:(P.info? elem).map (·.size)=some size) (g off dLen dCap:Nat) (sa:Addr) (sLen sCap k:Nat) (cs:List Value) (hk:Nat.min sLen dLen=k) (hn:cs.length=k*size)
 (hd:a.eval d= .slice (some ⟨g,off,none⟩) dLen dCap) (hsv:a.eval s= .slice (some sa) sLen sCap) (hsrc:∀ j v,cs[j]?=some v→w.cell? (sa.add j)=some v) (ht:w.there g off cs.length) (h1:∀ v∈cs,v.oneCell'=true)
 (h:wpList P ops Q rest (a.put o.dst (.int .i64 k)) (w.setCells g off cs)):wpList P ops Q (o :: rest) a w:=by
 refine wpList_plain hgd fun K hK=>?_
 have hr:=YK (P:=P) (sT:=sT) hu hs w o.type g off dLen dCap sa sLen sCap k cs hk hn hsrc ht h1
 unfold Oper.wp execOp
 simp only[ho,resolve,invoke,builtin,Sem.run_bind,Sem.run_pure,Result.andThen_ok,List.map_toArray,List.map_cons,List.map_nil,hd,hsv,hr]
 exact hK _ _ h
theorem Qz {T e:TypeId}{size:Nat}(hT:P.underlying T=some (.slice e))(hs:(P.info? e).map (·.size)=some size)(b o n c k:Nat)(hk:k≤n)(hc:k<c)(w:World):
 (Instr.slice T (.slice (some ⟨b,o,none⟩) n c) (some (.int .i64 k)) none none).run P w= .ok (.slice (some ⟨b,o+k*size,none⟩) (n-k) (c-k)) w:=by
 have h1:(0:Int)≤(k:Int)∧(k:Int)≤(n:Int):=by omega
 simp[Instr.slice,run_underlying hT,Instr.sliceBounds,Instr.sliceBound,asIntOf,QN hs,h1,Addr.add_mid,hk,show ¬c=k from by omega]
theorem Xp {T e:TypeId}{size:Nat}(hT:P.underlying T=some (.slice e))(hs:(P.info? e).map (·.size)=some size)(A:Option Addr)(n c k:Nat)(hk:k≤n)(w:World):
 (Instr.slice T (.slice A n c) (some (.int .i64 k)) none none).run P w= .ok (.slice (if c=k then A else A.map (·.add (k*size))) (n-k) (c-k)) w:=by
 have h1:(0:Int)≤(k:Int)∧(k:Int)≤(n:Int):=by omega
 simp[Instr.slice,run_underlying hT,Instr.sliceBounds,Instr.sliceBound,asIntOf,QN hs,h1,hk]
theorem Q7 {T e:TypeId}{size:Nat}(hT:P.underlying T=some (.slice e))(hs:(P.info? e).map (·.size)=some size)(b o n c k:Nat)(hk:k≤c)(w:World):
 (Instr.slice T (.slice (some ⟨b,o,none⟩) n c) none (some (.int .i64 k)) none).run P w= .ok (.slice (some ⟨b,o,none⟩) k c) w:=by
 have h1:(0:Int)≤(k:Int)∧(k:Int)≤(c:Int):=by omega
 by_cases h0:c=0
 ·simp[Instr.slice,run_underlying hT,Instr.sliceBounds,Instr.sliceBound,asIntOf,QN hs,h1,h0,Addr.add_mid]
  omega
 ·simp[Instr.slice,run_underlying hT,Instr.sliceBounds,Instr.sliceBound,asIntOf,QN hs,h1,h0,Addr.add_mid]
  omega
end
theorem Q2 {α:Type}(L:List α)(o:Nat)(cs:List α)(h:o+cs.length≤L.length):(splice L o cs).length=L.length:=by unfold splice;simp;omega
theorem Yj {α:Type}(L:List α)(o k:Nat)(cs:List α)(h:k≤o)(h2:o≤L.length):(splice L o cs).take k=L.take k:=by
 unfold splice
 rw[List.take_append_of_le_length (by simp;omega),List.take_take]
 congr 1;omega
theorem Jc {α:Type}(L:List α)(o:Nat)(cs:List α)(h:o≤L.length):(splice L o cs).take (o+cs.length)=L.take o++cs:=by
 unfold splice
 rw[← List.append_assoc,List.take_append_of_le_length (by simp;omega),List.take_of_length_le (by simp;omega)]
theorem Vy {α:Type}(R X y D:List α)(a:Nat)(ha:R.take a=X)(hX:X.length=a)(hl:a+(y.length+D.length)≤R.length):
 (splice (splice R a y) (a+y.length) D).take (a+(y.length+D.length))=X++(y++D):=by
 have h1:=Q2 R a y (by omega)
 rw[← Nat.add_assoc,Jc _ _ _ (by omega),Jc _ _ _ (by omega),ha,List.append_assoc]
theorem Um {α:Type}(R X y D:List α)(a:Nat)(ha:R.take a=X)(hX:X.length=a)(hl:a+(y.length+D.length)≤R.length):
 (splice (splice R (a+y.length) D) a y).take (a+(y.length+D.length))=X++(y++D):=by
 have e:splice (splice R (a+y.length) D) a y=splice (splice R a y) (a+y.length) D:=by
  have l1:=Q2 R a y (by omega)
  have l2:=Q2 R (a+y.length) D (by omega)
  apply List.ext_getElem?
  intro i
  rw[Xm _ _ _ (by omega),Xm _ _ _ (by omega),Xm _ _ _ (by omega),Xm _ _ _ (by omega)]
  by_cases h1:i<a
  ·rw[if_pos h1,if_pos (by omega),if_pos (by omega),if_pos h1]
  ·by_cases h2:i<a+y.length
   ·rw[if_neg h1,if_pos h2,if_pos h2,if_neg h1,if_pos h2]
   ·by_cases h3:i<a+y.length+D.length
    ·rw[if_neg h1,if_neg h2,if_neg h2,if_pos h3,if_neg h2,if_pos h3]
    ·rw[if_neg h1,if_neg h2,if_neg h2,if_neg h3,if_neg h2,if_neg h3,if_neg h1,if_neg h2]
 rw[e];exact Vy R X y D a ha hX hl
theorem Blk.takes {w:World}{g:Nat}{t:TypeId}{cs:List Value}(h:Blk w g t cs)(k:Nat):w.rangeAt g 0 (cs.take k):=fun j v hj=>by
 rw[List.getElem?_take] at hj
 split at hj
 ·exact h.whole j v hj
 ·cases hj
structure Kt (B:Nat) (w:World) (e s g n c:Nat) (cur xs:List Value):Prop where
 blk:Blk w g e cur
 len:cur.length=c*s
 hx:cur.take (n*s)=xs
 hc:n≤c
 hm:c≤maxLen
 hB:B≤g
theorem XS {B:Nat}{w:World}{e s n:Nat}{v:Value}{xs:List Value}(h:w.ownsRow B e s v n xs)(hn:0<n):∃ g c cur,v= .slice (some ⟨g,0,none⟩) n c∧Kt B w e s g n c cur xs:=by
 rcases h.2 with ⟨_,h0⟩|⟨g,c,cur,rfl,h1,h2,h3,h4,h5,h6⟩
 ·omega
 ·exact⟨g,c,cur.toList,rfl,⟨h2,by rw[Array.length_toList];exact h5,h6,h3,h4,h1⟩⟩
theorem Kt.own {B:Nat}{w:World}{e s g n c:Nat}{cur xs:List Value}(h:Kt B w e s g n c cur xs)(hl:xs.length=n*s):w.ownsRow B e s (.slice (some ⟨g,0,none⟩) n c) n xs:=
 ⟨hl,.inr ⟨g,c,cur.toArray,rfl,h.hB,h.blk,h.hc,h.hm,by rw[List.size_toArray];exact h.len,by rw[List.toList_toArray];exact h.hx⟩⟩
theorem Kt.xl {B:Nat}{w:World}{e s g n c:Nat}{cur xs:List Value}(h:Kt B w e s g n c cur xs):xs.length=n*s:=by
 rw[← h.hx,List.length_take,h.len]
 exact Nat.min_eq_left (Nat.mul_le_mul_right _ h.hc)
theorem JU (z:Array Value)(n:Nat):(Builtin.zeroCells z n).size=n*z.size:=by simp[Builtin.zeroCells]
theorem Jd {w s:World}{g n c o1 o2:Nat}{a b:List Value}(h:Below w.heap.size w s):Qu (fun k=>(Value.slice (some ⟨g,0,none⟩) n c).ownBlock=some k) w ((s.setCells g o1 a).setCells g o2 b):=
 Qu.setCells (S:=fun k=>(Value.slice (some ⟨g,0,none⟩) n c).ownBlock=some k) (.inl rfl) _ _ (Qu.setCells (S:=fun k=>(Value.slice (some ⟨g,0,none⟩) n c).ownBlock=some k) (.inl rfl) _ _ (Qu.of_grown h))
def JD (B n:Nat)(t:TypeId)(w:World)(v:Value)(cs:List Value)(e:Ending)(w':World):Prop:=∃ A c,e= .returned (.slice A n c)∧Below B w w'∧Rd w' A cs∧n≤c∧(∀ a,A=some a→B≤a.block)∧Qu (fun k=>v.ownBlock=some k) w w'∧Tyd w' t A
theorem X4:(Tryz.prog.info? 166).map (fun i=>(i.zero,i.size,i.bytes))=some (some (.agg #[.slice none 0 0,.slice none 0 0]),2,48):=by kernel_rfl
theorem Qx:(Tryz.prog.info? 166).map (·.size)=some 2:=by kernel_rfl
theorem Ku (B g n c vb:Nat)(cur xs y:List Value)(w:World)(h:Kt B w 166 2 g n c cur xs)(hv:Blk w vb 166 y)(hy:y.length=2)(hy1:∀ u∈y,u.oneCell'=true)(hn:n<1048576)(hB:B≤w.heap.size):
 Calls Tryz.prog 163 #[.slice (some ⟨g,0,none⟩) n c,.int .i64 n,.slice (some ⟨vb,0,none⟩) 1 1] w fun e w'=>JD B (n+1) 166 w (.slice (some ⟨g,0,none⟩) n c) (xs++y) e w':=by
 have hown:=h.own h.xl
 obtain⟨X,hX⟩:∃ X,X=Value.slice (if c=n then some ⟨g,0,none⟩ else (some ⟨g,0,none⟩:Option Addr).map (·.add (n*2))) (n-n) (c-n):=⟨_,rfl⟩
 have hsl:=Xp (P:=Tryz.prog) (T:=110) Tryz.underlying110 Qx (some ⟨g,0,none⟩) n c n (Nat.le_refl _)
 rw[← hX] at hsl
 clear hX
 have HO:=hid (Qa hown (Qa hv hy1))
 clear hown hv hy1 h
 have h0:((1:Int) == 0)=false:=rfl
 go_enter Tryz.func163,Tryz.ntmps163
 go_wp2_with (
  ((with_reducible refine Q1 (.tmp 23) (.tmp 24) 110 Tryz.underlying110 X4 rfl (by decide) HO.out.1 1 1 (news:=y) (by rw[hy]) (Rd.of _ HO.out.2.1.whole) HO.out.2.2 (by unfold maxLen;omega) (by omega) hB ?_ ?_ ?_ ?_ ?_);rfl;rfl;rfl;rfl
   intro v' w1 hown' hg hat _
   have HN:=hid (Qa hown' (Qa hg hat))
   clear hown' hg hat))
 go_ret
 obtain⟨hown',hg,hat⟩:=HN.out
 obtain⟨A',c',rfl,hr,hc⟩:=QC hown'
 refine⟨A',c',rfl,?_,hr,hc,fun a e=>by subst e;exact (hown'.lt a.block rfl).1,Qn hg,XO hown'⟩
 exact (Qn hg).step (Below.refl _ _) hB (fun k hk e=>by have e2:=Option.some.inj e;subst e2;exact absurd ((HO.out.1.lt _ rfl).1) (by omega))
theorem JI (B g n c i vb:Nat)(cur xs y:List Value)(w:World)(h:Kt B w 166 2 g n c cur xs)(hv:Blk w vb 166 y)(hy:y.length=2)(hy1:∀ u∈y,u.oneCell'=true)(hx1:∀ u∈xs,u.oneCell'=true)(hn:n<1048576)(hi:i<n)(hr:n+1≤c)(hne:vb≠g)(hB:B≤w.heap.size):
 Calls Tryz.prog 163 #[.slice (some ⟨g,0,none⟩) n c,.int .i64 i,.slice (some ⟨vb,0,none⟩) 1 1] w fun e w'=>JD B (n+1) 166 w (.slice (some ⟨g,0,none⟩) n c) (xs.take (i*2)++(y++xs.drop (i*2))) e w':=by
 have hm:=h.hm
 unfold maxLen at hm
 have s1:=Qz (P:=Tryz.prog) (T:=110) Tryz.underlying110 Qx g 0 n c i (by omega) (by omega)
 have s2:=Q7 (P:=Tryz.prog) (T:=110) Tryz.underlying110 Qx g 0 n c (n+1) (by omega)
 have s3:=Qz (P:=Tryz.prog) (T:=110) Tryz.underlying110 Qx g 0 (n+1) c (i+1) (by omega) (by omega)
 have s4:=Qz (P:=Tryz.prog) (T:=110) Tryz.underlying110 Qx g 0 (n+1) c i (by omega) (by omega)
 rw[show ((n+1:Nat):Int)=(n:Int)+1 from rfl] at s2
 rw[show ((i+1:Nat):Int)=(i:Int)+1 from rfl] at s3
 simp only[Nat.zero_add] at s1 s3 s4
 have hov:∀ lb cb,(callFunc 200 #[.slice (some ⟨vb,0,none⟩) 1 1,.slice (some ⟨g,(i+1)*2,none⟩) lb cb]).run Tryz.prog w= .ok (.value (.bool false)) w:=fun lb cb=>by
  rw[run_callFunc_extern Tryz.func200 (by kernel_rfl) (by kernel_rfl) (by kernel_rfl) (e:=Extern.SlicesOverlaps.overlaps #[110,110] #[4]) (by kernel_rfl),
   Lib.run_overlaps_apart w 110 4 166 Tryz.underlying110 2 (QN Qx) ⟨vb,0,none⟩ ⟨g,(i+1)*2,none⟩ 1 1 lb cb hne _ _ _ _ hv.shape h.blk.shape (by rw[h.len];omega) (hv.frozen _) (hv.frozen _)]
  rfl
 obtain⟨LA,hLA⟩:∃ k,k=n+1-(i+1):=⟨_,rfl⟩
 obtain⟨LB,hLB⟩:∃ k,k=n+1-i:=⟨_,rfl⟩
 obtain⟨CA,hCA⟩:∃ k,k=c-(i+1):=⟨_,rfl⟩
 obtain⟨CB,hCB⟩:∃ k,k=c-i:=⟨_,rfl⟩
 obtain⟨LC,hLC⟩:∃ k,k=n-i:=⟨_,rfl⟩
 obtain⟨oA,hoA⟩:∃ k,k=(i+1)*2:=⟨_,rfl⟩
 obtain⟨oB,hoB⟩:∃ k,k=i*2:=⟨_,rfl⟩
 have hxl:=h.xl
 have hN:=hid (Qa hLA (Qa hLB (Qa hLC (Qa hoA (Qa hoB hxl)))))
 rw[← hLC,←hCB,←hoB] at s1
 rw[← hLA,←hCA,←hoA] at s3
 rw[← hLB,←hCB,←hoB] at s4
 rw[← hoA] at hov
 rw[← hoB]
 have HO:=hid (Qa h (Qa hv (Qa hy1 (Qa hx1 hy))))
 clear h hv hy1 hx1 hy hLA hLB hCA hCB hLC hoA hoB hxl
 have j1:(n:Int)+1≤(c:Int):=by omega
 have j2:((i:Int) == (n:Int))=false:=by rw[beq_eq_false_iff_ne];omega
 go_enter Tryz.func163,Tryz.ntmps163
 go_wp2_with (simp only[hov])
 refine Qq 8 (by kernel_rfl) (by kernel_rfl) ?_
 dsimp only[List.take_succ_cons,List.take_zero]
 repeat (go_big_quiet_step (fail))
 refine wpQuiet_nil ?_
 rintro _ ⟨s,rfl⟩
 have hm1:Kt B s.v 166 2 g n c cur xs:=⟨HO.out.1.blk.grown s.below,HO.out.1.len,HO.out.1.hx,HO.out.1.hc,HO.out.1.hm,HO.out.1.hB⟩
 have hc1:∀ j v,(xs.drop oB)[j]?=some v→s.v.cell? ((⟨g,oB,none⟩:Addr).add j)=some v:=by
  intro j v hj
  rw[List.getElem?_drop,←hm1.hx] at hj
  rw[Addr.add_mid]
  have:=hm1.blk.takes (n*2) (oB+j) v hj
  rwa [Nat.zero_add] at this
 have hd1:(xs.drop oB).length=LA*2:=by have:=hN.out;rw[List.length_drop];omega
 have ht1:s.v.there g oA (xs.drop oB).length:=hm1.blk.there _ _ (by have:=hN.out;have:=hm1.len;rw[hd1];omega)
 have hbA:=hm1.blk.setCells (xs.drop oB) oA _ (by have:=hN.out;have:=hm1.len;rw[hd1];omega)
 have hvv:Blk s.v vb 166 y:=HO.out.2.1.grown s.below
 have hkk:Qu (· =g) s.v (s.v.setCells g oA (xs.drop oB)):=(Qu.refl _ _).setN _ _
 have hv2:=hkk.blk hvv (by exact hne)
 have ht2:(s.v.setCells g oA (xs.drop oB)).there g oB y.length:=hbA.there _ _ (by
  have:=hN.out;have:=hm1.len;have:=HO.out.2.2.2.2
  rw[Q2 _ _ _ (by rw[hd1];omega)];omega)
 have hc2:∀ j v,y[j]?=some v→(s.v.setCells g oA (xs.drop oB)).cell? ((⟨vb,0,none⟩:Addr).add j)=some v:=by
  intro j v hj
  rw[Addr.add_mid]
  exact hv2.whole j v hj
 have hbB:=hbA.setCells y oB _ (by
  have:=hN.out;have:=hm1.len;have:=HO.out.2.2.2.2
  rw[Q2 _ _ _ (by rw[hd1];omega)];omega)
 have HM:=hid (show Nat.min LB LA=LA∧Nat.min 1 LB=1∧y.length=1*2∧(∀ v∈xs.drop oB,v.oneCell'=true) from⟨by have:=hN.out;simp only[Nat.min_def];split<;>omega,by have:=hN.out;simp only[Nat.min_def];split<;>omega,by rw[HO.out.2.2.2.2],fun v hv=>HO.out.2.2.2.1 v (List.mem_of_mem_drop hv)⟩)
 have HC:=hid (Qa hc1 (Qa hd1 (Qa ht1 (Qa ht2 (Qa hc2 (Qa hbB (Qa hm1 hkk)))))))
 clear hc1 hd1 ht1 hbA hvv hkk hv2 ht2 hc2 hbB hm1
 simp only[List.drop_succ_cons,List.drop_zero]
 go_wp2_with (first
  |((with_reducible refine ZC ?_ (.tmp 73) (.tmp 76) 110 110 166 2 ?_ Tryz.underlying110 Qx g oA LA CA ⟨g,oB,none⟩ LB CB LA (xs.drop oB) HM.out.1 HC.out.2.1 ?_ ?_ HC.out.1 HC.out.2.2.1 HM.out.2.2.2 ?_);rfl;rfl;rfl;rfl)
  |((with_reducible refine ZC ?_ (.tmp 80) (.tmp 81) 110 110 166 2 ?_ Tryz.underlying110 Qx g oB LB CB ⟨vb,0,none⟩ 1 1 1 y HM.out.2.1 HM.out.2.2.1 ?_ ?_ HC.out.2.2.2.2.1 HC.out.2.2.2.1 HO.out.2.2.1 ?_);rfl;rfl;rfl;rfl))
 go_ret
 have hm1:=HC.out.2.2.2.2.2.2.1
 have hbB:=HC.out.2.2.2.2.2.1
 refine⟨_,_,rfl,?_,?_,by have:=hN.out;omega,fun a e=>by cases e;exact hm1.hB,Jd s.below,hbB.tyd⟩
 ·exact Qc _ hm1.hB _ _ _ (Qc _ hm1.hB _ _ _ (s.below.mono hB))
 ·have e1:=Um cur (xs.take oB) y (xs.drop oB) oB (by rw[← hm1.hx,List.take_take];congr 1;have:=hN.out;omega) (by have:=hN.out;rw[List.length_take];omega) (by have:=hN.out;have:=hm1.len;have:=HO.out.2.2.2.2;rw[HC.out.2.1];omega)
  rw[show oB+y.length=oA by have:=hN.out;have:=HO.out.2.2.2.2;omega] at e1
  rw[← e1]
  exact Rd.of _ (hbB.takes _)
theorem JV (B g n c i vb:Nat)(cur xs y:List Value)(w:World)(h:Kt B w 166 2 g n c cur xs)(hv:Blk w vb 166 y)(hy:y.length=2)(hy1:∀ u∈y,u.oneCell'=true)(hx1:∀ u∈xs,u.oneCell'=true)(hn:n<1048576)(hi:i<n)(hr:c<n+1)(hB:B≤w.heap.size):
 Calls Tryz.prog 163 #[.slice (some ⟨g,0,none⟩) n c,.int .i64 i,.slice (some ⟨vb,0,none⟩) 1 1] w fun e w'=>JD B (n+1) 166 w (.slice (some ⟨g,0,none⟩) n c) (xs.take (i*2)++(y++xs.drop (i*2))) e w':=by
 obtain rfl:c=n:=by have:=h.hc;omega
 have hm:=h.hm
 unfold maxLen at hm
 obtain⟨i0,hi0,hz0,hzs,hzb⟩:=info_parts X4
 have s1:=Qz (P:=Tryz.prog) (T:=110) Tryz.underlying110 Qx g 0 c c i (by omega) (by omega)
 have s2:=Q7 (P:=Tryz.prog) (T:=110) Tryz.underlying110 Qx g 0 c c i (by omega)
 simp only[Nat.zero_add] at s1
 have hold:(Builtin.firstCells i0.size i (.slice (some ⟨g,0,none⟩) i c)).run Tryz.prog w.drew= .ok (xs.take (i*2)).toArray w.drew:=by
  rw[hzs]
  exact run_firstCells_some w.drew 2 i ⟨g,0,none⟩ i c (xs.take (i*2)) (by have:=h.xl;rw[List.length_take];omega) (fun j v hj=>by
   rw[Addr.add_mid]
   rw[List.getElem?_take] at hj
   split at hj
   ·rw[← h.hx] at hj
    exact h.blk.takes _ j v hj
   ·cases hj)
 have hrz:∀ ty,(Builtin.append_ #[110,3] ty #[.slice (some ⟨g,0,none⟩) i c,.int .i64 ((c:Int)+1-(i:Int))]).run Tryz.prog w=
  .ok (.slice (some ⟨w.heap.size,0,none⟩) (c+1) (grownCap w (c+1) c 166)) (w.drew.alloc (.cells ((xs.take (i*2)).toArray++Builtin.zeroCells (.agg #[.slice none 0 0,.slice none 0 0]:Value).cells (c+1-i)++Builtin.zeroCells (.agg #[.slice none 0 0,.slice none 0 0]:Value).cells (grownCap w (c+1) c 166-(c+1))) 166)):=fun ty=>by
  have hik:i+(c+1-i)=c+1:=by omega
  have h:=Lib.run_append_grow_zeros w 110 3 ty 166 i0 _ .i64 .i64 Tryz.underlying110 Tryz.underlying3 hi0 hz0 (some ⟨g,0,none⟩) i c (xs.take (i*2)) hold (c+1-i) (by omega) (by rw[hzs];decide) (by omega) (by omega) (by rw[hzb];omega) (by rw[hzb,hik];exact growslice_fits (by omega) (by omega))
  rw[hik] at h
  rw[show (c:Int)+1-(i:Int)=((c+1-i:Nat):Int) by omega]
  exact h
 obtain⟨G,hG⟩:∃ G,G=grownCap w (c+1) c 166:=⟨_,rfl⟩
 obtain⟨ROW,hROW⟩:∃ ROW:Array Value,ROW=(xs.take (i*2)).toArray++Builtin.zeroCells (.agg #[.slice none 0 0,.slice none 0 0]:Value).cells (c+1-i)++Builtin.zeroCells (.agg #[.slice none 0 0,.slice none 0 0]:Value).cells (G-(c+1)):=⟨_,rfl⟩
 rw[← hG] at hrz
 rw[← hROW] at hrz
 have hGn:c+1≤G:=by rw[hG];exact grownCap_ge w _ _ _
 have hG63:G≤9223372036854775807:=by
  have:=grownCap_le_maxLen w (c+1) c 166 (by unfold maxLen;omega)
  rw[← hG] at this
  unfold maxLen at this
  omega
 obtain⟨oB,hoB⟩:∃ k,k=i*2:=⟨_,rfl⟩
 obtain⟨oA,hoA⟩:∃ k,k=(i+1)*2:=⟨_,rfl⟩
 have hzc:(.agg #[.slice none 0 0,.slice none 0 0]:Value).cells.size=2:=rfl
 have hxl:=h.xl
 have hRt:ROW.toList.take oB=xs.take oB:=by
  rw[hROW,hoB,Array.toList_append,Array.toList_append,List.append_assoc,List.take_append_of_le_length (by simp;omega)]
  simp[List.take_take]
 have hRl:ROW.toList.length=G*2:=by
  rw[hROW,Array.toList_append,Array.toList_append,List.length_append,List.length_append,Array.length_toList,Array.length_toList,Array.length_toList,JU,JU,hzc]
  simp only[List.size_toArray,List.length_take]
  omega
 have s3:=Qz (P:=Tryz.prog) (T:=110) Tryz.underlying110 Qx w.heap.size 0 (c+1) G i (by omega) (by omega)
 have s4:=Qz (P:=Tryz.prog) (T:=110) Tryz.underlying110 Qx w.heap.size 0 (c+1) G (i+1) (by omega) (by omega)
 rw[show ((i+1:Nat):Int)=(i:Int)+1 from rfl] at s4
 simp only[Nat.zero_add] at s3 s4
 obtain⟨LA,hLA⟩:∃ k,k=c+1-(i+1):=⟨_,rfl⟩
 obtain⟨LB,hLB⟩:∃ k,k=c+1-i:=⟨_,rfl⟩
 obtain⟨CA,hCA⟩:∃ k,k=G-(i+1):=⟨_,rfl⟩
 obtain⟨CB,hCB⟩:∃ k,k=G-i:=⟨_,rfl⟩
 obtain⟨LC,hLC⟩:∃ k,k=c-i:=⟨_,rfl⟩
 have hN:=hid (Qa hLA (Qa hLB (Qa hLC (Qa hoA (Qa hoB (Qa hxl (Qa hRl (Qa hRt hGn))))))))
 rw[← hLC,←hoB] at s1
 rw[← hLB,←hCB,←hoB] at s3
 rw[← hLA,←hCA,←hoA] at s4
 rw[← hoB]
 obtain⟨W1,hW1⟩:∃ W1,W1=w.drew.alloc (.cells ROW 166):=⟨_,rfl⟩
 rw[← hW1] at hrz
 have hbW:Below w.heap.size w W1:=by rw[hW1];exact (Below.refl _ _).drew.alloc (Nat.le_refl _) _
 have hblk:Blk W1 w.heap.size 166 ROW.toList:=by rw[hW1];exact Blk.new w.drew 166 ROW.toList
 have hgl:=h.blk.lt
 have hvl:=hv.lt
 have hm2:=h.blk.grown hbW
 have hv2:=hv.grown hbW
 have ht1:W1.there w.heap.size oB y.length:=hblk.there _ _ (by rw[hRl];omega)
 have hc1:∀ j v,y[j]?=some v→W1.cell? ((⟨vb,0,none⟩:Addr).add j)=some v:=by
  intro j v hj
  rw[Addr.add_mid]
  exact hv2.whole j v hj
 have hbA:=hblk.setCells y oB _ (by rw[hRl];omega)
 have hkk:Qu (· =w.heap.size) W1 (W1.setCells w.heap.size oB y):=(Qu.refl _ _).setN _ _
 have hm3:=hkk.blk hm2 (by omega)
 have hbl3:Below w.heap.size w (W1.setCells w.heap.size oB y):=Qc _ (Nat.le_refl _) _ _ _ hbW
 have HM:=hid (show Nat.min 1 LB=1∧y.length=1*2∧Nat.min LC LA=LA∧(xs.drop oB).length=LA*2∧(∀ v∈xs.drop oB,v.oneCell'=true)∧(∀ v∈y,v.oneCell'=true)∧y.length=2 from⟨by simp only[Nat.min_def];split<;>omega,by rw[hy],by simp only[Nat.min_def];split<;>omega,by rw[List.length_drop];omega,fun v hv=>hx1 v (List.mem_of_mem_drop hv),hy1,hy⟩)
 have HC:=hid (Qa hc1 (Qa ht1 (Qa hbA (Qa hm3 (Qa hbl3 (Qa h.hx h.len))))))
 have HW:=hid hW1
 clear h hv hy1 hx1 hy hLA hLB hCA hCB hLC hoA hoB hxl hRl hRt hold hROW hG hi0 hz0 hzs hzb hW1 hblk hm2 hv2 ht1 hc1 hbA hkk hm3 hbl3 hzc
 have j1:(c:Int)< (c:Int)+1:=by omega
 have j2:((i:Int) == (c:Int))=false:=by rw[beq_eq_false_iff_ne];omega
 go_enter Tryz.func163,Tryz.ntmps163
 go_upto_region 11 with (first
  |(at_builtin;refine Lib.wpList_append_run _ rfl _ _ _ _ rfl _ _ rfl rfl _ _ (hrz _) ?_)
  |((with_reducible refine ZC ?_ (.tmp 43) (.tmp 44) 110 110 166 2 ?_ Tryz.underlying110 Qx w.heap.size oB LB CB ⟨vb,0,none⟩ 1 1 1 y HM.out.1 HM.out.2.1 ?_ ?_ HC.out.1 HC.out.2.1 HM.out.2.2.2.2.2.1 ?_);rfl;rfl;rfl;rfl))
 simp only[Act.put,List.setIfInBounds_toArray,List.set_cons_zero,List.set_cons_succ]
 refine Qq 8 (by kernel_rfl) (by kernel_rfl) ?_
 dsimp only[List.take_succ_cons,List.take_zero]
 repeat (go_big_quiet_step (fail))
 refine wpQuiet_nil ?_
 rintro _ ⟨s,rfl⟩
 have hbA:=HC.out.2.2.1.grown s.below
 have hm3:=HC.out.2.2.2.1.grown s.below
 have hbl3:=HC.out.2.2.2.2.1.trans (s.below.mono HC.out.2.2.2.2.1.size)
 have hlenA:(splice ROW.toList oB y).length=G*2:=by
  rw[Q2 _ _ _ (by have:=hN.out;rw[HM.out.2.2.2.2.2.2];omega)];exact hN.out.2.2.2.2.2.2.1
 have ht2:s.v.there w.heap.size oA (xs.drop oB).length:=hbA.there _ _ (by have:=hN.out;rw[hlenA,HM.out.2.2.2.1];omega)
 have hc2:∀ j v,(xs.drop oB)[j]?=some v→s.v.cell? ((⟨g,oB,none⟩:Addr).add j)=some v:=by
  intro j v hj
  rw[List.getElem?_drop,←HC.out.2.2.2.2.2.1] at hj
  rw[Addr.add_mid]
  have:=hm3.takes (c*2) (oB+j) v hj
  rwa [Nat.zero_add] at this
 have hbB:=hbA.setCells (xs.drop oB) oA _ (by have:=hN.out;rw[hlenA,HM.out.2.2.2.1];omega)
 have HE:=hid (Qa ht2 (Qa hc2 (Qa hbB hbl3)))
 clear hbA hm3 hbl3 ht2 hc2 hbB hlenA
 simp only[List.drop_succ_cons,List.drop_zero]
 go_wp2_with (
  ((with_reducible refine ZC ?_ (.tmp 50) (.tmp 53) 110 110 166 2 ?_ Tryz.underlying110 Qx w.heap.size oA LA CA ⟨g,oB,none⟩ LC LC LA (xs.drop oB) HM.out.2.2.1 HM.out.2.2.2.1 ?_ ?_ HE.out.2.1 HE.out.1 HM.out.2.2.2.2.1 ?_);rfl;rfl;rfl;rfl))
 go_ret
 refine⟨_,_,rfl,?_,?_,by have:=hN.out;omega,fun a e=>by cases e;exact hB,Qu.of_grown (Qc _ (Nat.le_refl _) _ _ _ HE.out.2.2.2),HE.out.2.2.1.tyd⟩
 ·exact Qc _ hB _ _ _ (HE.out.2.2.2.mono hB)
 ·have e1:=Vy ROW.toList (xs.take oB) y (xs.drop oB) oB hN.out.2.2.2.2.2.2.2.1 (by have:=hN.out;rw[List.length_take];omega) (by have:=hN.out;rw[HM.out.2.2.2.1,HM.out.2.2.2.2.2.2];omega)
  rw[show oB+y.length=oA by have:=hN.out;rw[HM.out.2.2.2.2.2.2];omega] at e1
  rw[← e1]
  exact Rd.of _ (HE.out.2.2.1.takes _)
theorem Vz (B n i vb:Nat)(v:Value)(xs y:List Value)(w:World)(h:w.ownsRow B 166 2 v n xs)(hv:Blk w vb 166 y)(hy:y.length=2)(hy1:∀ u∈y,u.oneCell'=true)(hx1:∀ u∈xs,u.oneCell'=true)(hn:n<1048576)(hn0:0<n)(hi:i≤n)(hne:v.ownBlock≠some vb)(hB:B≤w.heap.size):
 Calls Tryz.prog 163 #[v,.int .i64 i,.slice (some ⟨vb,0,none⟩) 1 1] w fun e w'=>JD B (n+1) 166 w v (xs.take (i*2)++(y++xs.drop (i*2))) e w':=by
 obtain⟨g,c,cur,rfl,hm⟩:=XS h hn0
 have hg:vb≠g:=fun e=>hne (by subst e;rfl)
 rcases Nat.lt_or_ge i n with hlt|hge
 ·rcases Nat.lt_or_ge c (n+1) with hr|hr
  ·exact JV B g n c i vb cur xs y w hm hv hy hy1 hx1 hn hlt hr hB
  ·exact JI B g n c i vb cur xs y w hm hv hy hy1 hx1 hn hlt hr hg hB
 ·obtain rfl:i=n:=by omega
  have:=Ku B g i c vb cur xs y w hm hv hy hy1 hn hB
  have hl:=hm.xl
  rw[List.take_of_length_le (by omega),List.drop_eq_nil_of_le (by omega),List.append_nil]
  exact this
theorem ZF:(Tryz.prog.info? 157).map (fun i=>(i.zero,i.size,i.bytes))=some (some (.nilIface),1,16):=by kernel_rfl
theorem Qy:(Tryz.prog.info? 157).map (·.size)=some 1:=by kernel_rfl
theorem Kv (B g n c vb:Nat)(cur xs y:List Value)(w:World)(h:Kt B w 157 1 g n c cur xs)(hv:Blk w vb 157 y)(hy:y.length=1)(hy1:∀ u∈y,u.oneCell'=true)(hn:n<1048576)(hB:B≤w.heap.size):
 Calls Tryz.prog 165 #[.slice (some ⟨g,0,none⟩) n c,.int .i64 n,.slice (some ⟨vb,0,none⟩) 1 1] w fun e w'=>JD B (n+1) 157 w (.slice (some ⟨g,0,none⟩) n c) (xs++y) e w':=by
 have hown:=h.own h.xl
 obtain⟨X,hX⟩:∃ X,X=Value.slice (if c=n then some ⟨g,0,none⟩ else (some ⟨g,0,none⟩:Option Addr).map (·.add (n*1))) (n-n) (c-n):=⟨_,rfl⟩
 have hsl:=Xp (P:=Tryz.prog) (T:=169) Tryz.underlying169 Qy (some ⟨g,0,none⟩) n c n (Nat.le_refl _)
 rw[← hX] at hsl
 clear hX
 have HO:=hid (Qa hown (Qa hv hy1))
 clear hown hv hy1 h
 have h0:((1:Int) == 0)=false:=rfl
 go_enter Tryz.func165,Tryz.ntmps165
 go_wp2_with (
  ((with_reducible refine Q1 (.tmp 23) (.tmp 24) 169 Tryz.underlying169 ZF rfl (by decide) HO.out.1 1 1 (news:=y) (by rw[hy]) (Rd.of _ HO.out.2.1.whole) HO.out.2.2 (by unfold maxLen;omega) (by omega) hB ?_ ?_ ?_ ?_ ?_);rfl;rfl;rfl;rfl
   intro v' w1 hown' hg hat _
   have HN:=hid (Qa hown' (Qa hg hat))
   clear hown' hg hat))
 go_ret
 obtain⟨hown',hg,hat⟩:=HN.out
 obtain⟨A',c',rfl,hr,hc⟩:=QC hown'
 refine⟨A',c',rfl,?_,hr,hc,fun a e=>by subst e;exact (hown'.lt a.block rfl).1,Qn hg,XO hown'⟩
 exact (Qn hg).step (Below.refl _ _) hB (fun k hk e=>by have e2:=Option.some.inj e;subst e2;exact absurd ((HO.out.1.lt _ rfl).1) (by omega))
theorem JJ (B g n c i vb:Nat)(cur xs y:List Value)(w:World)(h:Kt B w 157 1 g n c cur xs)(hv:Blk w vb 157 y)(hy:y.length=1)(hy1:∀ u∈y,u.oneCell'=true)(hx1:∀ u∈xs,u.oneCell'=true)(hn:n<1048576)(hi:i<n)(hr:n+1≤c)(hne:vb≠g)(hB:B≤w.heap.size):
 Calls Tryz.prog 165 #[.slice (some ⟨g,0,none⟩) n c,.int .i64 i,.slice (some ⟨vb,0,none⟩) 1 1] w fun e w'=>JD B (n+1) 157 w (.slice (some ⟨g,0,none⟩) n c) (xs.take (i*1)++(y++xs.drop (i*1))) e w':=by
 have hm:=h.hm
 unfold maxLen at hm
 have s1:=Qz (P:=Tryz.prog) (T:=169) Tryz.underlying169 Qy g 0 n c i (by omega) (by omega)
 have s2:=Q7 (P:=Tryz.prog) (T:=169) Tryz.underlying169 Qy g 0 n c (n+1) (by omega)
 have s3:=Qz (P:=Tryz.prog) (T:=169) Tryz.underlying169 Qy g 0 (n+1) c (i+1) (by omega) (by omega)
 have s4:=Qz (P:=Tryz.prog) (T:=169) Tryz.underlying169 Qy g 0 (n+1) c i (by omega) (by omega)
 rw[show ((n+1:Nat):Int)=(n:Int)+1 from rfl] at s2
 rw[show ((i+1:Nat):Int)=(i:Int)+1 from rfl] at s3
 simp only[Nat.zero_add] at s1 s3 s4
 have hov:∀ lb cb,(callFunc 202 #[.slice (some ⟨vb,0,none⟩) 1 1,.slice (some ⟨g,(i+1)*1,none⟩) lb cb]).run Tryz.prog w= .ok (.value (.bool false)) w:=fun lb cb=>by
  rw[run_callFunc_extern Tryz.func202 (by kernel_rfl) (by kernel_rfl) (by kernel_rfl) (e:=Extern.SlicesOverlaps.overlaps #[169,169] #[4]) (by kernel_rfl),
   Lib.run_overlaps_apart w 169 4 157 Tryz.underlying169 1 (QN Qy) ⟨vb,0,none⟩ ⟨g,(i+1)*1,none⟩ 1 1 lb cb hne _ _ _ _ hv.shape h.blk.shape (by rw[h.len];omega) (hv.frozen _) (hv.frozen _)]
  rfl
 obtain⟨LA,hLA⟩:∃ k,k=n+1-(i+1):=⟨_,rfl⟩
 obtain⟨LB,hLB⟩:∃ k,k=n+1-i:=⟨_,rfl⟩
 obtain⟨CA,hCA⟩:∃ k,k=c-(i+1):=⟨_,rfl⟩
 obtain⟨CB,hCB⟩:∃ k,k=c-i:=⟨_,rfl⟩
 obtain⟨LC,hLC⟩:∃ k,k=n-i:=⟨_,rfl⟩
 obtain⟨oA,hoA⟩:∃ k,k=(i+1)*1:=⟨_,rfl⟩
 obtain⟨oB,hoB⟩:∃ k,k=i*1:=⟨_,rfl⟩
 have hxl:=h.xl
 have hN:=hid (Qa hLA (Qa hLB (Qa hLC (Qa hoA (Qa hoB hxl)))))
 rw[← hLC,←hCB,←hoB] at s1
 rw[← hLA,←hCA,←hoA] at s3
 rw[← hLB,←hCB,←hoB] at s4
 rw[← hoA] at hov
 rw[← hoB]
 have HO:=hid (Qa h (Qa hv (Qa hy1 (Qa hx1 hy))))
 clear h hv hy1 hx1 hy hLA hLB hCA hCB hLC hoA hoB hxl
 have j1:(n:Int)+1≤(c:Int):=by omega
 have j2:((i:Int) == (n:Int))=false:=by rw[beq_eq_false_iff_ne];omega
 go_enter Tryz.func165,Tryz.ntmps165
 go_wp2_with (simp only[hov])
 refine Qq 8 (by kernel_rfl) (by kernel_rfl) ?_
 dsimp only[List.take_succ_cons,List.take_zero]
 repeat (go_big_quiet_step (fail))
 refine wpQuiet_nil ?_
 rintro _ ⟨s,rfl⟩
 have hm1:Kt B s.v 157 1 g n c cur xs:=⟨HO.out.1.blk.grown s.below,HO.out.1.len,HO.out.1.hx,HO.out.1.hc,HO.out.1.hm,HO.out.1.hB⟩
 have hc1:∀ j v,(xs.drop oB)[j]?=some v→s.v.cell? ((⟨g,oB,none⟩:Addr).add j)=some v:=by
  intro j v hj
  rw[List.getElem?_drop,←hm1.hx] at hj
  rw[Addr.add_mid]
  have:=hm1.blk.takes (n*1) (oB+j) v hj
  rwa [Nat.zero_add] at this
 have hd1:(xs.drop oB).length=LA*1:=by have:=hN.out;rw[List.length_drop];omega
 have ht1:s.v.there g oA (xs.drop oB).length:=hm1.blk.there _ _ (by have:=hN.out;have:=hm1.len;rw[hd1];omega)
 have hbA:=hm1.blk.setCells (xs.drop oB) oA _ (by have:=hN.out;have:=hm1.len;rw[hd1];omega)
 have hvv:Blk s.v vb 157 y:=HO.out.2.1.grown s.below
 have hkk:Qu (· =g) s.v (s.v.setCells g oA (xs.drop oB)):=(Qu.refl _ _).setN _ _
 have hv2:=hkk.blk hvv (by exact hne)
 have ht2:(s.v.setCells g oA (xs.drop oB)).there g oB y.length:=hbA.there _ _ (by
  have:=hN.out;have:=hm1.len;have:=HO.out.2.2.2.2
  rw[Q2 _ _ _ (by rw[hd1];omega)];omega)
 have hc2:∀ j v,y[j]?=some v→(s.v.setCells g oA (xs.drop oB)).cell? ((⟨vb,0,none⟩:Addr).add j)=some v:=by
  intro j v hj
  rw[Addr.add_mid]
  exact hv2.whole j v hj
 have hbB:=hbA.setCells y oB _ (by
  have:=hN.out;have:=hm1.len;have:=HO.out.2.2.2.2
  rw[Q2 _ _ _ (by rw[hd1];omega)];omega)
 have HM:=hid (show Nat.min LB LA=LA∧Nat.min 1 LB=1∧y.length=1*1∧(∀ v∈xs.drop oB,v.oneCell'=true) from⟨by have:=hN.out;simp only[Nat.min_def];split<;>omega,by have:=hN.out;simp only[Nat.min_def];split<;>omega,by rw[HO.out.2.2.2.2],fun v hv=>HO.out.2.2.2.1 v (List.mem_of_mem_drop hv)⟩)
 have HC:=hid (Qa hc1 (Qa hd1 (Qa ht1 (Qa ht2 (Qa hc2 (Qa hbB (Qa hm1 hkk)))))))
 clear hc1 hd1 ht1 hbA hvv hkk hv2 ht2 hc2 hbB hm1
 simp only[List.drop_succ_cons,List.drop_zero]
 go_wp2_with (first
  |((with_reducible refine ZC ?_ (.tmp 73) (.tmp 76) 169 169 157 1 ?_ Tryz.underlying169 Qy g oA LA CA ⟨g,oB,none⟩ LB CB LA (xs.drop oB) HM.out.1 HC.out.2.1 ?_ ?_ HC.out.1 HC.out.2.2.1 HM.out.2.2.2 ?_);rfl;rfl;rfl;rfl)
  |((with_reducible refine ZC ?_ (.tmp 80) (.tmp 81) 169 169 157 1 ?_ Tryz.underlying169 Qy g oB LB CB ⟨vb,0,none⟩ 1 1 1 y HM.out.2.1 HM.out.2.2.1 ?_ ?_ HC.out.2.2.2.2.1 HC.out.2.2.2.1 HO.out.2.2.1 ?_);rfl;rfl;rfl;rfl))
 go_ret
 have hm1:=HC.out.2.2.2.2.2.2.1
 have hbB:=HC.out.2.2.2.2.2.1
 refine⟨_,_,rfl,?_,?_,by have:=hN.out;omega,fun a e=>by cases e;exact hm1.hB,Jd s.below,hbB.tyd⟩
 ·exact Qc _ hm1.hB _ _ _ (Qc _ hm1.hB _ _ _ (s.below.mono hB))
 ·have e1:=Um cur (xs.take oB) y (xs.drop oB) oB (by rw[← hm1.hx,List.take_take];congr 1;have:=hN.out;omega) (by have:=hN.out;rw[List.length_take];omega) (by have:=hN.out;have:=hm1.len;have:=HO.out.2.2.2.2;rw[HC.out.2.1];omega)
  rw[show oB+y.length=oA by have:=hN.out;have:=HO.out.2.2.2.2;omega] at e1
  rw[← e1]
  exact Rd.of _ (hbB.takes _)
theorem JW (B g n c i vb:Nat)(cur xs y:List Value)(w:World)(h:Kt B w 157 1 g n c cur xs)(hv:Blk w vb 157 y)(hy:y.length=1)(hy1:∀ u∈y,u.oneCell'=true)(hx1:∀ u∈xs,u.oneCell'=true)(hn:n<1048576)(hi:i<n)(hr:c<n+1)(hB:B≤w.heap.size):
 Calls Tryz.prog 165 #[.slice (some ⟨g,0,none⟩) n c,.int .i64 i,.slice (some ⟨vb,0,none⟩) 1 1] w fun e w'=>JD B (n+1) 157 w (.slice (some ⟨g,0,none⟩) n c) (xs.take (i*1)++(y++xs.drop (i*1))) e w':=by
 obtain rfl:c=n:=by have:=h.hc;omega
 have hm:=h.hm
 unfold maxLen at hm
 obtain⟨i0,hi0,hz0,hzs,hzb⟩:=info_parts ZF
 have s1:=Qz (P:=Tryz.prog) (T:=169) Tryz.underlying169 Qy g 0 c c i (by omega) (by omega)
 have s2:=Q7 (P:=Tryz.prog) (T:=169) Tryz.underlying169 Qy g 0 c c i (by omega)
 simp only[Nat.zero_add] at s1
 have hold:(Builtin.firstCells i0.size i (.slice (some ⟨g,0,none⟩) i c)).run Tryz.prog w.drew= .ok (xs.take (i*1)).toArray w.drew:=by
  rw[hzs]
  exact run_firstCells_some w.drew 1 i ⟨g,0,none⟩ i c (xs.take (i*1)) (by have:=h.xl;rw[List.length_take];omega) (fun j v hj=>by
   rw[Addr.add_mid]
   rw[List.getElem?_take] at hj
   split at hj
   ·rw[← h.hx] at hj
    exact h.blk.takes _ j v hj
   ·cases hj)
 have hrz:∀ ty,(Builtin.append_ #[169,3] ty #[.slice (some ⟨g,0,none⟩) i c,.int .i64 ((c:Int)+1-(i:Int))]).run Tryz.prog w=
  .ok (.slice (some ⟨w.heap.size,0,none⟩) (c+1) (grownCap w (c+1) c 157)) (w.drew.alloc (.cells ((xs.take (i*1)).toArray++Builtin.zeroCells (.nilIface:Value).cells (c+1-i)++Builtin.zeroCells (.nilIface:Value).cells (grownCap w (c+1) c 157-(c+1))) 157)):=fun ty=>by
  have hik:i+(c+1-i)=c+1:=by omega
  have h:=Lib.run_append_grow_zeros w 169 3 ty 157 i0 _ .i64 .i64 Tryz.underlying169 Tryz.underlying3 hi0 hz0 (some ⟨g,0,none⟩) i c (xs.take (i*1)) hold (c+1-i) (by omega) (by rw[hzs];decide) (by omega) (by omega) (by rw[hzb];omega) (by rw[hzb,hik];exact growslice_fits (by omega) (by omega))
  rw[hik] at h
  rw[show (c:Int)+1-(i:Int)=((c+1-i:Nat):Int) by omega]
  exact h
 obtain⟨G,hG⟩:∃ G,G=grownCap w (c+1) c 157:=⟨_,rfl⟩
 obtain⟨ROW,hROW⟩:∃ ROW:Array Value,ROW=(xs.take (i*1)).toArray++Builtin.zeroCells (.nilIface:Value).cells (c+1-i)++Builtin.zeroCells (.nilIface:Value).cells (G-(c+1)):=⟨_,rfl⟩
 rw[← hG] at hrz
 rw[← hROW] at hrz
 have hGn:c+1≤G:=by rw[hG];exact grownCap_ge w _ _ _
 have hG63:G≤9223372036854775807:=by
  have:=grownCap_le_maxLen w (c+1) c 157 (by unfold maxLen;omega)
  rw[← hG] at this
  unfold maxLen at this
  omega
 obtain⟨oB,hoB⟩:∃ k,k=i*1:=⟨_,rfl⟩
 obtain⟨oA,hoA⟩:∃ k,k=(i+1)*1:=⟨_,rfl⟩
 have hzc:(.nilIface:Value).cells.size=1:=rfl
 have hxl:=h.xl
 have hRt:ROW.toList.take oB=xs.take oB:=by
  rw[hROW,hoB,Array.toList_append,Array.toList_append,List.append_assoc,List.take_append_of_le_length (by simp;omega)]
  simp[List.take_take]
 have hRl:ROW.toList.length=G*1:=by
  rw[hROW,Array.toList_append,Array.toList_append,List.length_append,List.length_append,Array.length_toList,Array.length_toList,Array.length_toList,JU,JU,hzc]
  simp only[List.size_toArray,List.length_take]
  omega
 have s3:=Qz (P:=Tryz.prog) (T:=169) Tryz.underlying169 Qy w.heap.size 0 (c+1) G i (by omega) (by omega)
 have s4:=Qz (P:=Tryz.prog) (T:=169) Tryz.underlying169 Qy w.heap.size 0 (c+1) G (i+1) (by omega) (by omega)
 rw[show ((i+1:Nat):Int)=(i:Int)+1 from rfl] at s4
 simp only[Nat.zero_add] at s3 s4
 obtain⟨LA,hLA⟩:∃ k,k=c+1-(i+1):=⟨_,rfl⟩
 obtain⟨LB,hLB⟩:∃ k,k=c+1-i:=⟨_,rfl⟩
 obtain⟨CA,hCA⟩:∃ k,k=G-(i+1):=⟨_,rfl⟩
 obtain⟨CB,hCB⟩:∃ k,k=G-i:=⟨_,rfl⟩
 obtain⟨LC,hLC⟩:∃ k,k=c-i:=⟨_,rfl⟩
 have hN:=hid (Qa hLA (Qa hLB (Qa hLC (Qa hoA (Qa hoB (Qa hxl (Qa hRl (Qa hRt hGn))))))))
 rw[← hLC,←hoB] at s1
 rw[← hLB,←hCB,←hoB] at s3
 rw[← hLA,←hCA,←hoA] at s4
 rw[← hoB]
 obtain⟨W1,hW1⟩:∃ W1,W1=w.drew.alloc (.cells ROW 157):=⟨_,rfl⟩
 rw[← hW1] at hrz
 have hbW:Below w.heap.size w W1:=by rw[hW1];exact (Below.refl _ _).drew.alloc (Nat.le_refl _) _
 have hblk:Blk W1 w.heap.size 157 ROW.toList:=by rw[hW1];exact Blk.new w.drew 157 ROW.toList
 have hgl:=h.blk.lt
 have hvl:=hv.lt
 have hm2:=h.blk.grown hbW
 have hv2:=hv.grown hbW
 have ht1:W1.there w.heap.size oB y.length:=hblk.there _ _ (by rw[hRl];omega)
 have hc1:∀ j v,y[j]?=some v→W1.cell? ((⟨vb,0,none⟩:Addr).add j)=some v:=by
  intro j v hj
  rw[Addr.add_mid]
  exact hv2.whole j v hj
 have hbA:=hblk.setCells y oB _ (by rw[hRl];omega)
 have hkk:Qu (· =w.heap.size) W1 (W1.setCells w.heap.size oB y):=(Qu.refl _ _).setN _ _
 have hm3:=hkk.blk hm2 (by omega)
 have hbl3:Below w.heap.size w (W1.setCells w.heap.size oB y):=Qc _ (Nat.le_refl _) _ _ _ hbW
 have HM:=hid (show Nat.min 1 LB=1∧y.length=1*1∧Nat.min LC LA=LA∧(xs.drop oB).length=LA*1∧(∀ v∈xs.drop oB,v.oneCell'=true)∧(∀ v∈y,v.oneCell'=true)∧y.length=1 from⟨by simp only[Nat.min_def];split<;>omega,by rw[hy],by simp only[Nat.min_def];split<;>omega,by rw[List.length_drop];omega,fun v hv=>hx1 v (List.mem_of_mem_drop hv),hy1,hy⟩)
 have HC:=hid (Qa hc1 (Qa ht1 (Qa hbA (Qa hm3 (Qa hbl3 (Qa h.hx h.len))))))
 have HW:=hid hW1
 clear h hv hy1 hx1 hy hLA hLB hCA hCB hLC hoA hoB hxl hRl hRt hold hROW hG hi0 hz0 hzs hzb hW1 hblk hm2 hv2 ht1 hc1 hbA hkk hm3 hbl3 hzc
 have j1:(c:Int)< (c:Int)+1:=by omega
 have j2:((i:Int) == (c:Int))=false:=by rw[beq_eq_false_iff_ne];omega
 go_enter Tryz.func165,Tryz.ntmps165
 go_upto_region 11 with (first
  |(at_builtin;refine Lib.wpList_append_run _ rfl _ _ _ _ rfl _ _ rfl rfl _ _ (hrz _) ?_)
  |((with_reducible refine ZC ?_ (.tmp 43) (.tmp 44) 169 169 157 1 ?_ Tryz.underlying169 Qy w.heap.size oB LB CB ⟨vb,0,none⟩ 1 1 1 y HM.out.1 HM.out.2.1 ?_ ?_ HC.out.1 HC.out.2.1 HM.out.2.2.2.2.2.1 ?_);rfl;rfl;rfl;rfl))
 simp only[Act.put,List.setIfInBounds_toArray,List.set_cons_zero,List.set_cons_succ]
 refine Qq 8 (by kernel_rfl) (by kernel_rfl) ?_
 dsimp only[List.take_succ_cons,List.take_zero]
 repeat (go_big_quiet_step (fail))
 refine wpQuiet_nil ?_
 rintro _ ⟨s,rfl⟩
 have hbA:=HC.out.2.2.1.grown s.below
 have hm3:=HC.out.2.2.2.1.grown s.below
 have hbl3:=HC.out.2.2.2.2.1.trans (s.below.mono HC.out.2.2.2.2.1.size)
 have hlenA:(splice ROW.toList oB y).length=G*1:=by
  rw[Q2 _ _ _ (by have:=hN.out;rw[HM.out.2.2.2.2.2.2];omega)];exact hN.out.2.2.2.2.2.2.1
 have ht2:s.v.there w.heap.size oA (xs.drop oB).length:=hbA.there _ _ (by have:=hN.out;rw[hlenA,HM.out.2.2.2.1];omega)
 have hc2:∀ j v,(xs.drop oB)[j]?=some v→s.v.cell? ((⟨g,oB,none⟩:Addr).add j)=some v:=by
  intro j v hj
  rw[List.getElem?_drop,←HC.out.2.2.2.2.2.1] at hj
  rw[Addr.add_mid]
  have:=hm3.takes (c*1) (oB+j) v hj
  rwa [Nat.zero_add] at this
 have hbB:=hbA.setCells (xs.drop oB) oA _ (by have:=hN.out;rw[hlenA,HM.out.2.2.2.1];omega)
 have HE:=hid (Qa ht2 (Qa hc2 (Qa hbB hbl3)))
 clear hbA hm3 hbl3 ht2 hc2 hbB hlenA
 simp only[List.drop_succ_cons,List.drop_zero]
 go_wp2_with (
  ((with_reducible refine ZC ?_ (.tmp 50) (.tmp 53) 169 169 157 1 ?_ Tryz.underlying169 Qy w.heap.size oA LA CA ⟨g,oB,none⟩ LC LC LA (xs.drop oB) HM.out.2.2.1 HM.out.2.2.2.1 ?_ ?_ HE.out.2.1 HE.out.1 HM.out.2.2.2.2.1 ?_);rfl;rfl;rfl;rfl))
 go_ret
 refine⟨_,_,rfl,?_,?_,by have:=hN.out;omega,fun a e=>by cases e;exact hB,Qu.of_grown (Qc _ (Nat.le_refl _) _ _ _ HE.out.2.2.2),HE.out.2.2.1.tyd⟩
 ·exact Qc _ hB _ _ _ (HE.out.2.2.2.mono hB)
 ·have e1:=Vy ROW.toList (xs.take oB) y (xs.drop oB) oB hN.out.2.2.2.2.2.2.2.1 (by have:=hN.out;rw[List.length_take];omega) (by have:=hN.out;rw[HM.out.2.2.2.1,HM.out.2.2.2.2.2.2];omega)
  rw[show oB+y.length=oA by have:=hN.out;rw[HM.out.2.2.2.2.2.2];omega] at e1
  rw[← e1]
  exact Rd.of _ (HE.out.2.2.1.takes _)
theorem VA (B n i vb:Nat)(v:Value)(xs y:List Value)(w:World)(h:w.ownsRow B 157 1 v n xs)(hv:Blk w vb 157 y)(hy:y.length=1)(hy1:∀ u∈y,u.oneCell'=true)(hx1:∀ u∈xs,u.oneCell'=true)(hn:n<1048576)(hn0:0<n)(hi:i≤n)(hne:v.ownBlock≠some vb)(hB:B≤w.heap.size):
 Calls Tryz.prog 165 #[v,.int .i64 i,.slice (some ⟨vb,0,none⟩) 1 1] w fun e w'=>JD B (n+1) 157 w v (xs.take (i*1)++(y++xs.drop (i*1))) e w':=by
 obtain⟨g,c,cur,rfl,hm⟩:=XS h hn0
 have hg:vb≠g:=fun e=>hne (by subst e;rfl)
 rcases Nat.lt_or_ge i n with hlt|hge
 ·rcases Nat.lt_or_ge c (n+1) with hr|hr
  ·exact JW B g n c i vb cur xs y w hm hv hy hy1 hx1 hn hlt hr hB
  ·exact JJ B g n c i vb cur xs y w hm hv hy hy1 hx1 hn hlt hr hg hB
 ·obtain rfl:i=n:=by omega
  have:=Kv B g i c vb cur xs y w hm hv hy hy1 hn hB
  have hl:=hm.xl
  rw[List.take_of_length_le (by omega),List.drop_eq_nil_of_le (by omega),List.append_nil]
  exact this
end Go.Proofs.YtpnakfeafekneaaGreatDoor
