/- Part 18 of this proof. -/
import Derived.Test.YtpnakfeafekneaaGreatDoorG15
import Derived.Test.YtpnakfeafekneaaGreatDoorG17
set_option linter.unusedSimpArgs false
set_option linter.unusedVariables false
set_option maxHeartbeats 8000000
set_option maxRecDepth 100000
namespace Go.Proofs.YtpnakfeafekneaaGreatDoor
open Go.RowKit
structure Qhs (P:Program) (ops:Array Oper) (opsF:Value→Array Oper) (md:Region.Mode) (k v n g0:Nat) (o ov:Oper) (A0:Act) (Q':Exit→Act→World→Prop) (w:World) (X:Value→Array Bool→Prop) (tv:Tmp) (f:FuncId) (args:Array Value) (Φ:Value→World→Prop):Prop where
 lk:∀ u,Xh ops (opsF u) k o {o with op:= .move (.const u)}
 ov_:ops[v]?=some ov
 dv:ov.dst=some tv
 run:∀ (a:Act) (w':World),a.tmps[tv]?=A0.tmps[tv]?→(execOp a.eval o).run P w'= .ok (.enter f args) w'
 call:∀ w',Below w.heap.size w w'→Calls P f args w' fun e w''=>∃ u,e= .returned u∧Below w'.heap.size w' w''∧Φ u w''
 stab:∀ u w1 w2,Below w1.heap.size w1 w2→Φ u w1→Φ u w2
 kn:k<n
 vk:v≠k
 wait:∃ e∈o.after,Region.binds md e=true∧e.on=v
 dist:∀ (i j:Nat) (oi oj:Oper) (t:Tmp),ops[i]?=some oi→ops[j]?=some oj→j≠i→oi.dst=some t→oj.dst≠some t
 done:∀ u listed,X u listed→∀ i,i<n→listed.getD i true=true
 last:∀ (u:Value) (listed:Array Bool) (w':World),Below w.heap.size w w'→Φ u w'→X u listed→wpAny P md ops Q' g0 listed (A0.put o.dst u) w'
abbrev Zi (P:Program)(md:Region.Mode)(opsF:Value→Array Oper)(n:Nat)(X:Value→Array Bool→Prop)(A0:Act)(o:Oper)(w1:World)(u:Value)(f:Nat)(listed:Array Bool)(a:Act):Prop:=
 QP P md (opsF u) (FC w1) n (fun listed a=>X u listed∧a=A0.put o.dst u) f listed a
theorem Jo {P:Program}{ops ops':Array Oper}{md:Region.Mode}{k:Nat}{o o':Oper}{C:World→Prop}{n i:Nat}{X:Array Bool→Prop}{A a:Act}{oi:Oper}{t:Tmp}{f:Nat}{listed:Array Bool}(lk:Xh ops ops' k o o')(hdist:∀ (i j:Nat) (oi oj:Oper) (t:Tmp),ops[i]?=some oi→ops[j]?=some oj→j≠i→oi.dst=some t→oj.dst≠some t)
 (hoi:ops[i]?=some oi) (ht:oi.dst=some t) (h:QP P md ops' C n (fun listed a=>X listed∧a=A) f listed a) (hi:listed.getD i true=true):A.tmps[t]?=a.tmps[t]?:=
 Kp (ops:=ops') (i:=i) (t:=t) (fun j oj hj hji=>by
  by_cases hjk:j=k
  ·subst hjk
   rw[lk.at1] at hj;cases hj
   rw[lk.dst]
   exact hdist i j oi o t hoi lk.at0 hji ht
  ·rw[lk.off j hjk] at hj
   exact hdist i j oi oj t hoi hj hji ht) f _ _ h hi
theorem Yd {P:Program}{ops:Array Oper}{opsF:Value→Array Oper}{md:Region.Mode}{k v n g0:Nat}{o ov:Oper}{A0:Act}{Q':Exit→Act→World→Prop}{w:World}{X:Value→Array Bool→Prop}{tv:Tmp}{fn:FuncId}{args:Array Value}{Φ:Value→World→Prop}
 (F:Qhs P ops opsF md k v n g0 o ov A0 Q' w X tv fn args Φ):
 ∀ (f:Nat) (listed:Array Bool) (a:Act) (w':World),listed.getD k true=false→Below w.heap.size w w'→
   (∀ (w1:World) (u:Value),Below w.heap.size w w1→Zi P md opsF n X A0 o w1 u f listed a)→wpAny P md ops Q' (f+g0) listed a w'
 |0,listed,a,w',hk,_,h=>by
  have:=F.done _ _ (h w undef (Below.refl _ _)).1 k F.kn
  rw[hk] at this;cases this
 |f+1,listed,a,w',hk,hb,h=>by
  rw[show f+1+g0=(f+g0)+1 by omega]
  have h0:=h w' undef hb
  have h0':=h0
  unfold Zi at h0
  rw[QP,(F.lk _).ready] at h0
  refine⟨fun e=>absurd e h0.1,fun i hi=>?_⟩
  by_cases hik:i=k
  ·subst hik
   have hvl:listed.getD v true=true:=by
    obtain⟨_,o2,ho2,hall⟩:=mem_ready.1 hi
    rw[(F.lk undef).at0] at ho2;cases ho2
    obtain⟨e,he,hbd,hon⟩:=F.wait
    have:=hall e he hbd
    rw[hon] at this
    rcases Nat.lt_or_ge v listed.size with hlt|hge
    ·simp[hlt] at this ⊢;exact this
    ·simp[Array.getElem?_eq_none hge] at this
   have s2:=Jo (F.lk undef) F.dist F.ov_ F.dv h0' hvl
   rw[ZQ _ _ _ _ (F.dist v i ov o tv F.ov_ (F.lk undef).at0 (Ne.symm F.vk) F.dv)] at s2
   have hrun:=F.run a w' s2.symm
   unfold wpOp
   rw[(F.lk undef).at0]
   have hwant:Region.wanted o (Go.yielded ops a.tmps)=true:=by unfold Region.wanted;rw[(F.lk undef).guard]
   simp only[hwant,if_true]
   refine .inl ?_
   unfold Oper.wp
   rw[hrun]
   refine (F.call w' hb).mono ?_
   rintro e w2 ⟨u,rfl,hb2,hΦ⟩
   have hbw:Below w.heap.size w w2:=hb.trans (hb2.mono hb.size)
   have h1:=h w2 u hbw
   unfold Zi at h1
   rw[QP,(F.lk _).ready] at h1
   obtain⟨v1,hy,hK⟩:=yieldsIn_of_qOp (F.lk u).at1 (h1.2 i hi).2
   have hv:v1=u:=by
    rcases hy with ⟨_,hq⟩|⟨hw,_⟩
    ·have:=hq _ (⟨Fut.here _,rfl⟩:FC w2 w2)
     unfold Oper.quietAt at this
     rw[BigFrame.run_move _ rfl] at this
     exact this.2.symm
    ·unfold Region.wanted at hw;rw[(F.lk u).guard'] at hw;cases hw
   subst hv
   refine Ko (F.lk v1) (C:=FC w2) (g:=g0) (n:=n) (L:=fun listed a=>X v1 listed∧a=A0.put o.dst v1) ?_ f _ _ _ ⟨Fut.here _,rfl⟩ (Q4 hk) hK
   rintro l2 a2 w3 ⟨s,rfl⟩ ⟨hX,rfl⟩
   exact F.last _ _ _ (hbw.trans (s.below.mono hbw.size)) (F.stab _ _ _ s.below hΦ) hX
  ·obtain⟨hil,oi,hoi,_⟩:=mem_ready.1 hi
   have hoi':∀ u,(opsF u)[i]?=some oi:=fun u=>by rw[(F.lk u).off i hik];exact hoi
   obtain⟨vv,hy,hK⟩:=yieldsIn_of_qOp (hoi' _) (h0.2 i hi).2
   have hset:∀ u (x:Value) (w1:World),Zi P md opsF n X A0 o w1 u f (listed.setIfInBounds i true) (a.put oi.dst x)→∀ t,oi.dst=some t→A0.tmps[t]?=(a.put oi.dst x).tmps[t]?:=by
    intro u x w1 hh t ht
    rw[← Jo (F.lk u) F.dist hoi ht hh (Q4 hil)]
    exact (ZQ _ _ _ _ (F.dist i k oi o t hoi (F.lk u).at0 (Ne.symm hik) ht)).symm
   have hnext:∀ w1 u,Below w.heap.size w w1→Zi P md opsF n X A0 o w1 u f (listed.setIfInBounds i true) (a.put oi.dst vv):=by
    intro w1 u hb1
    have h1:=h w1 u hb1
    unfold Zi at h1
    rw[QP,(F.lk _).ready] at h1
    obtain⟨v1,_,hK1⟩:=yieldsIn_of_qOp (hoi' u) (h1.2 i hi).2
    unfold Zi
    rw[Vu a oi.dst vv v1 (fun t ht=>by rw[← hset _ _ _ hK t ht,←hset _ _ _ hK1 t ht])]
    exact hK1
   have hq:qOp P ops (FC w') i (fun a'=>a'=a.put oi.dst vv) a:=by
    refine YieldsIn.qOp hoi ?_ rfl
    unfold YieldsIn at hy ⊢
    rw[(F.lk _).yielded] at hy
    exact hy
   refine wpOp_of_qOp (C:=FC w') ⟨Fut.here _,rfl⟩ ?_ hq
   rintro a' w2 ⟨s,rfl⟩ rfl
   exact Yd F f _ _ _ (by rw[getD_set_ne true hik];exact hk) (hb.trans (s.below.mono hb.size)) hnext
theorem YI {P:Program}{id:Nat}{Q:Exit→Act→World→Prop}{a:Act}{w:World}{l:List Oper}(n k v:Nat)(o ov:Oper)(tv:Tmp)(f:FuncId)(args:Array Value)(Φ:Value→World→Prop)(A0:Act)
 (hm:P.follows .mixedOrders=true) (hk:l[k]?=some o) (hv:l[v]?=some ov) (hdv:ov.dst=some tv) (hg:o.guard=none) (hkn:k<n) (hvk:v≠k)
 (hw:(o.after.any fun e=>Region.binds .any e && e.on == v)=true)
 (hB:∀ u,Region.lexTailB .any (l.set k {o with op:= .move (.const u)}).toArray n=true)
 (hd:((List.range l.length).all fun i=>(List.range l.length).all fun j=>i == j || (match (l[i]?).bind (·.dst),(l[j]?).bind (·.dst) with|some a,some b=>a != b|_,_=>true))=true)
 (hrun:∀ (a:Act) (w':World),a.tmps[tv]?=A0.tmps[tv]?→(execOp a.eval o).run P w'= .ok (.enter f args) w')
 (hcall:∀ w',Below w.heap.size w w'→Calls P f args w' fun e w''=>∃ u,e= .returned u∧Below w'.heap.size w' w''∧Φ u w'')
 (hst:∀ u w1 w2,Below w1.heap.size w1 w2→Φ u w1→Φ u w2)
 (h:∀ (w1:World) (u:Value),Below w.heap.size w w1→wpQuiet P (l.set k {o with op:= .move (.const u)}).toArray (fun w'=>∃ s:Fut w1,w'=s.v) (fun a'=>a'=A0.put o.dst u) ((l.set k {o with op:= .move (.const u)}).take n) a)
 (ht:∀ (u:Value) (w':World),Below w.heap.size w w'→Φ u w'→wpList P l.toArray Q (l.drop n) (A0.put o.dst u) w'):(Code.region id l.toArray true).wp P Q a w:=by
 have lk:∀ u:Value,Xh l.toArray (l.set k {o with op:= .move (.const u)}).toArray k o {o with op:= .move (.const u)}:=fun u=>V7 u hk hg
 have hB':=fun u=>hB u
 simp only[Region.lexTailB,Bool.and_eq_true,decide_eq_true_eq] at hB'
 have hn:n<l.length:=by have:=(hB' undef).1.1.1.2;simpa using this
 have hdl:(l.drop n).length=l.length-n:=by simp
 refine wp_region_any hm ?_
 have F:Qhs P l.toArray (fun u=>(l.set k {o with op:= .move (.const u)}).toArray) .any k v n (l.length-n) o ov A0 Q w (fun u listed=>Region.seqB .any (l.set k {o with op:= .move (.const u)}).toArray (l.length-n) n listed=true∧∀ i,i<n→listed.getD i true=true) tv f args Φ:=by
  refine⟨lk,by simpa using hv,hdv,hrun,hcall,hst,hkn,hvk,?_,Z9 hd,fun u listed hX=>hX.2,?_⟩
  ·obtain⟨e,he,h1⟩:=Array.any_eq_true'.1 hw
   simp only[Bool.and_eq_true,beq_iff_eq] at h1
   exact⟨e,he,h1.1,h1.2⟩
  ·intro u listed w' hb hΦ hX
   have hs:=hX.1
   rw[(lk u).seqB] at hs
   have:=wpAny_of_seq (md:= .any) (ops:=l.toArray) (Q':=Q) (l.drop n) n listed (A0.put o.dst u) w' (fun j=>by simp[List.getElem?_drop]) (by rw[hdl];exact hs) (ht u w' hb hΦ)
   rwa [hdl] at this
 have hfin:∀ (w1:World) (u:Value),Below w.heap.size w w1→Zi P .any (fun u=>(l.set k {o with op:= .move (.const u)}).toArray) n (fun u listed=>Region.seqB .any (l.set k {o with op:= .move (.const u)}).toArray (l.length-n) n listed=true∧∀ i,i<n→listed.getD i true=true) A0 o w1 u n (Array.replicate l.length false) a:=by
  intro w1 u hb1
  obtain⟨⟨⟨⟨hsel,hn'⟩,hs⟩,hc⟩,hlex⟩:=hB' u
  have hsz:(l.set k {o with op:= .move (.const u)}).toArray.size=l.length:=by simp
  rw[hsz] at hlex hn'
  have htl:((l.set k {o with op:= .move (.const u)}).take n).length=n:=by simp;omega
  have inv0:HeadInv .any (l.set k {o with op:= .move (.const u)}).toArray n (Array.replicate l.length false):=
   ⟨by simp,fun j oj _ hl=>(by rw[getD_replicate_false] at hl;cases hl),fun t _ ht'=>getD_in (by rw[hsz] at ht';simpa using ht') (getD_replicate_false _ _)⟩
  have H:=X8 (P:=P) (md:= .any) (C:=FC w1) (g:=l.length-n) hsel hs hc (by rw[hsz];exact hn') ((l.set k {o with op:= .move (.const u)}).take n) 0 _ a (fun j hj=>by
   have hj':j<n:=by rw[htl] at hj;exact hj
   simp[hj']) (by simpa using htl) inv0 (by rw[htl];exact hlex) (h w1 u hb1)
  rw[htl] at H
  refine ZB ?_ n _ _ inv0 H
  rintro listed a' ⟨h1,h2⟩ hinv
  refine⟨⟨h1,fun i hi=>?_⟩,h2⟩
  rcases hli:listed.getD i true with _|_
  ·exfalso
   have hready:n∈Region.ready .any (l.set k {o with op:= .move (.const u)}).toArray listed:=by
    obtain⟨q,hq⟩:∃ q,l.length-n=q+1:=⟨l.length-n-1,by omega⟩
    rw[hq] at h1
    simp only[Region.seqB,Bool.and_eq_true,decide_eq_true_eq] at h1
    rw[h1.1];simp
   exact tail_waits hs hc (by rw[hsz];exact hn') hinv _ i rfl hi hli n (Nat.le_refl _) hready
  ·rfl
 have:=Yd F n (Array.replicate l.length false) a {w with drawn:=w.drawn+1} (getD_in (by simp;have:=(List.getElem?_eq_some_iff.1 hk).1;omega) (getD_replicate_false _ _)) (Below.refl _ _).drew hfin
 rw[show n+(l.length-n)=l.toArray.size by simp;omega] at this
 simpa using this
theorem JS {x:Value}(w:World):(callFunc 120 (#[]++ #[x]++ #[])).run Tryz.prog w= .ok (.enter 120 #[x]) w:=by kernel_rfl
theorem Wt (b n:Nat)(hn1:1≤n)(hn2:n≤32)(ds es:List (List UInt8))(A:Option Addr)(c:Nat)(w:World)(h:QT w b n ds)(hw:Qs w)(hf:XZ n es)(hA:Rd w A (dgs es).flatten)(hl:ds.length+es.length<1099511627776):
 Calls Tryz.prog 75 #[ptr b,.slice A es.length c] w fun e w'=>∃ b',e= .returned (.tuple #[ptr b',.int .i64 0])∧Below w.heap.size w w'∧QT w' b' n (ds++es):=by
 obtain⟨A0,c0,bs,ts,hT⟩:=h.is
 have hbl:=hT.blk.lt
 have k0:w.cell? ⟨b,0,none⟩=some (.int .i64 n):=by rw[hT.blk.cell];rfl
 have HA:=hid (Qa hf (Qa hA (Qa hT (Qa h k0))))
 clear hf hA hT h k0
 go_enter Tryz.func75,Tryz.ntmps75
 go_wp2_with fail
 go_loopg [15] es.length (fun g i wr=>∃ j:Nat,j+g=es.length∧i= .int .i64 j∧Below w.heap.size w wr)
 case atStart=>exact⟨0,by omega,rfl,Below.refl _ _⟩
 case round=>
  obtain⟨j,hj,rfl,hi⟩:=hrel
  have HI:=hid hi
  clear hi
  by_cases hlt:j<es.length
  ·have hl32:∀ x∈dgs es,x.length=32:=Q3 fun d hd=>(HA.out.1 d hd).1
   have hjl:j< (dgs es).length:=by simpa [dgs] using hlt
   obtain⟨g,o,rfl,hr⟩:=HA.out.2.1 (by
    intro e
    have:=Qk 32 _ hl32
    rw[e] at this
    simp at this;omega)
   have hp:=Qt hr hl32 j hjl
   have hlj:(dgs es)[j].length=32:=hl32 _ (List.getElem_mem hjl)
   have hej:(dgs es)[j]=es[j].map b8:=by simp[dgs]
   rw[hej] at hp hlj
   have hlb:=Qo hp (by omega)
   have hp2:wr.rangeAt g (o+j*32) (es[j].map b8):=Qh hp HI.out hlb
   have hd:=HA.out.1 es[j] (List.getElem_mem hlt)
   have hbn:Blk (wr.alloc (.cells (es[j].map b8).toArray 40)) wr.heap.size 40 (es[j].map b8):=Blk.new _ _ _
   have HD:=hid (Qa hd hbn)
   clear hr hp hej hl32 hd hbn
   have HL:=hid hlj
   clear hlj
   go_upto_region 6 with (first
    |((with_reducible refine Qf 40 (.tmp 17) g (o+j*32) _ 32 _ HL.out hp2 Tryz.underlying40 rfl (by kernel_rfl) ?_ ?_ ?_ ?_);rfl;rfl;rfl)
    |((with_reducible refine Qw 40 (.tmp 7) (.tmp 18) _ _ (es[j].map b8) 32 HL.out ?_ (by kernel_rfl) (Qi _) ?_ ?_ ?_ ?_ ?_);rfl;rfl;rfl;rfl;rfl))
   refine Qe (fun w'=>Blk w' wr.heap.size 40 (es[j].map b8)∧Below w.heap.size w w') ⟨HD.out.2,HI.out.alloc HI.out.size _⟩ ?_
   rintro w2 ⟨hb2,hbl2⟩
   have q0:=Fut.cell (show w2.cell? ⟨b,0,none⟩=some (.int .i64 n) from by rw[hbl2.cell (p:=⟨b,0,none⟩) hbl];exact HA.out.2.2.2.2)
   have hcf:∀ s:Fut w2,Calls Tryz.prog 119 #[.int .i64 n,dg es[j]] s.v fun e w''=>e= .returned (.bool true)∧∃ s':Fut w2,w''=s'.v:=fun s=>Calls.fut_of (by
    have:=Z5 n es[j] hn1 hn2 HD.out.1.1 s.v
    rw[HD.out.1.2] at this
    exact this)
   have HF:=hid (Qa hcf (Qa hb2.whole hbl2))
   clear hcf hb2 hbl2
   dsimp only[Act.put]
   refine Qr (by kernel_rfl) (by kernel_rfl) ?_
   repeat (first
    |(go_big_quiet_want;(with_reducible refine QG 40 (.tmp 7) wr.heap.size 0 _ 32 _ HL.out (QA HF.out.2.1) Tryz.underlying40 rfl (by kernel_rfl) ?_ ?_ ?_);rfl;rfl;simp only[Act.put,List.setIfInBounds_toArray,List.set_cons_zero,List.set_cons_succ];go_big_quiet_on)
    |go_big_quiet_step (with_reducible exact HF.out.1 _))
   refine wpQuiet_nil ?_
   rintro _ ⟨s,rfl⟩
   go_wp2_with fail
   go_roundg (gk-1)
   case measure=>omega
   case rel=>exact⟨j+1,by omega,by go_num,HF.out.2.2.trans (s.below.mono HF.out.2.2.size)⟩
  ·rename World=>wo
   go_upto_region 9 with fail
   have hTw:=HA.out.2.2.2.1.grown HI.out
   have HTI:=HA.out.2.2.1
   have hblw:Blk wo b 180 [.int .i64 n,.int .u64 ds.length,.slice A0 bs.length c0]:=HTI.blk.below HI.out hbl
   have hrdw:Rd wo A0 (bs.map ptr):=HTI.rd.grown HI.out
   have hbsl:bs.length<1099511627776:=by
    have h1:=HTI.nodes.len
    have h2:=Jn HTI.peaks
    rw[HTI.leaves] at h2
    omega
   have HW:=hid (Qa hTw (Qa hblw (Qa hrdw hbsl)))
   clear hTw HTI hblw hrdw hbsl
   refine YI 13 12 11 _ _ 38 120 #[.slice A0 bs.length c0] (fun u w'=>w'.ownsRow wo.heap.size 196 1 u bs.length (bs.map ptr))
    {tmps:= #[ptr b,.slice A es.length c,undef,undef,u4,u5,undef,u7,undef,undef,undef,ptr b,.bool false,.slice A es.length c,.int .i64 es.length,.int .i64 j,.bool false,u17,u18,u19,u20,u21,u22,u23,u24,u25,u26,ptr b,ptr b,ptr b,.int .i64 n,ptr b,ptr b,.pointer (some ⟨b,1,none⟩),.int .u64 ds.length,ptr b,ptr b,.pointer (some ⟨b,2,none⟩),.slice A0 bs.length c0,undef,undef,undef,undef,undef,undef,undef,undef,undef,undef,undef,undef,undef,undef],defers:=[]}
    (by kernel_rfl) rfl rfl rfl rfl (by decide) (by decide) (by kernel_rfl) (fun u=>by kernel_rfl) (by kernel_rfl) ?hrun ?hcall ?hst ?h ?ht
   case hrun=>
    intro a w' ha
    have e:a.eval (.tmp 38)= .slice A0 bs.length c0:=by simp[Act.eval,Array.getD_eq_getD_getElem?,ha]
    rw[execOp_call_go,show (#[Operand.tmp 38]:Array Operand).map a.eval= #[.slice A0 bs.length c0] from by simp[e]]
    exact JS w'
   case hcall=>
    intro w' hb
    refine (V1 A0 bs.length c0 (bs.map ptr) w' (by simp) (HW.out.2.2.1.grown hb) (fun v hv=>by obtain⟨x,_,rfl⟩:=List.mem_map.1 hv;rfl) (by have:=HW.out.2.2.2;omega)).mono ?_
    rintro e w'' ⟨u,rfl,hb2,hown,_⟩
    exact⟨u,rfl,hb2,Xi hown (fun k hk=>Nat.le_trans hb.size (hown.lt k hk).1)⟩
   case hst=>exact fun u w1 w2 hb h=>Qg h hb
   case h=>
    intro w2 u hb2
    have hb3:=HW.out.2.1.grown hb2
    have q0:=Fut.cell (show w2.cell? ⟨b,0,none⟩=some (.int .i64 n) from by rw[hb3.cell];rfl)
    have q1:=Fut.cell (show w2.cell? ⟨b,1,none⟩=some (.int .u64 ds.length) from by rw[hb3.cell];rfl)
    have q2:=Fut.cell (show w2.cell? ⟨b,2,none⟩=some (.slice A0 bs.length c0) from by rw[hb3.cell];rfl)
    clear hb3
    dsimp only[List.take_succ_cons,List.take_zero,List.drop_succ_cons,List.drop_zero,List.set_cons_zero,List.set_cons_succ]
    repeat go_big_quiet_step (fail)
    exact wpQuiet_nil rfl
   case ht=>
    intro u w2 hb2 hown
    obtain⟨A9,c9,rfl,-,-⟩:=QC hown
    have hbw2:Below w.heap.size w w2:=HI.out.trans (hb2.mono HI.out.size)
    have hB2:wo.heap.size≤w2.heap.size:=hb2.size
    have hnew:TrO wo.heap.size w2.heap.size n (w2.alloc (.cells #[.int .i64 n,.int .u64 ds.length,.slice A9 bs.length c9] 180)) ds.length bs ts (.slice A9 bs.length c9):=
     ⟨Blk.new w2 180 [.int .i64 n,.int .u64 ds.length,.slice A9 bs.length c9],Qg hown (Qb _ _),HA.out.2.2.1.nodes.stay (Xj.of_grown (gro hbw2 (Qb _ _))),hB2⟩
    have HN:=hid (Qa hnew (Qa hbw2 hb2))
    clear hnew hbw2 hown hb2
    dsimp only[List.drop_succ_cons,List.drop_zero,Act.put,List.setIfInBounds_toArray,List.set_cons_zero,List.set_cons_succ]
    go_wp2_with fail
    go_loopg [44] es.length (fun g i w5=>∃ (j2:Nat) (bs2:List Nat) (ts2:List MT) (v2:Value),j2+g=es.length∧i= .int .i64 j2∧TrO wo.heap.size w2.heap.size n w5 (ds.length+j2) bs2 ts2 v2∧Q0 n ts2∧Qj ts2=ds++es.take j2∧Below wo.heap.size wo w5)
    case atStart=>exact⟨0,bs,ts,_,by omega,rfl,HN.out.1,HA.out.2.2.1.peaks,by rw[HA.out.2.2.1.leaves];simp,HN.out.2.2.trans ((Qb w2 _).mono hB2)⟩
    case round=>
     obtain⟨j2,bs2,ts2,v2,hj2,rfl,ht2,hp2,hl2,hb2⟩:=hrel
     have hbase:wo.heap.size≤wr.heap.size:=hb2.size
     have hbw:Below w.heap.size w wr:=HI.out.trans (hb2.mono HI.out.size)
     have hFds:=HA.out.2.2.1.fits
     by_cases hlt2:j2<es.length
     ·have hl32:∀ x∈dgs es,x.length=32:=Q3 fun d hd=>(HA.out.1 d hd).1
      have hjl:j2< (dgs es).length:=by simpa [dgs] using hlt2
      obtain⟨g,o,rfl,hr⟩:=HA.out.2.1 (by
       intro e
       have:=Qk 32 _ hl32
       rw[e] at this
       simp at this;omega)
      have hp:=Qt hr hl32 j2 hjl
      have hlj:(dgs es)[j2].length=32:=hl32 _ (List.getElem_mem hjl)
      have hej:(dgs es)[j2]=es[j2].map b8:=by simp[dgs]
      rw[hej] at hp hlj
      have hlb:=Qo hp (by omega)
      have hpr:wr.rangeAt g (o+j2*32) (es[j2].map b8):=Qh hp hbw hlb
      have hd:=HA.out.1 es[j2] (List.getElem_mem hlt2)
      have hbx:=Qb wr (.cells (es[j2].map b8).toArray 40)
      have hbn:Blk (wr.alloc (.cells (es[j2].map b8).toArray 40)) wr.heap.size 40 (es[j2].map b8):=Blk.new _ _ _
      have hbr:=hbn.whole
      have htl2:=Jn hp2
      have hfit2:XZ n (ds++es.take j2):=fun d hd=>by
       rcases List.mem_append.1 hd with h|h
       ·exact hFds d h
       ·exact HA.out.1 d (List.mem_of_mem_take h)
      have hlen2:(ds++es.take j2).length=ds.length+j2:=by simp;omega
      rw[hl2,hlen2] at htl2
      have hcall:=Qdh wo.heap.size w2.heap.size n (ds.length+j2) hn1 hn2 bs2 ts2 v2 (ds++es.take j2) es[j2] _ (ht2.grown hbx) ((hw.below hbw).below hbx) (Nat.le_trans hbase hbx.size) hd.1 hd.2 hp2 hl2 hfit2 (by omega) (by omega) (by omega) (Nat.lt_of_lt_of_le (hw.below HI.out).2 (Nat.le_refl _))
      have hps:=Qbx (d:=es[j2]) hp2 hl2
      have HX:=hid (Qa hcall (Qa hps (Qa hb2 hbx)))
      have HL:=hid hlj
      clear hr hp hej hl32 hd hbn hfit2 hlen2 htl2 hcall hps hlj hb2 hbx ht2 hp2 hl2 hFds
      go_wp2_with (first
       |((with_reducible refine Qf 40 (.tmp 46) g (o+j2*32) _ 32 _ HL.out hpr Tryz.underlying40 rfl (by kernel_rfl) ?_ ?_ ?_ ?_);rfl;rfl;rfl)
       |((with_reducible refine Qw 40 (.tmp 10) (.tmp 47) _ _ (es[j2].map b8) 32 HL.out ?_ (by kernel_rfl) (Qi _) ?_ ?_ ?_ ?_ ?_);rfl;rfl;rfl;rfl;rfl)
       |((with_reducible refine Qf 40 (.tmp 10) wr.heap.size 0 _ 32 _ HL.out hbr Tryz.underlying40 rfl (by kernel_rfl) ?_ ?_ ?_ ?_);rfl;rfl;rfl)
       |(go_at_call 121;refine HX.out.1.mono ?_;rintro e w7 ⟨rfl,hb7,bs7,v7,ht7⟩;have HY:=hid (Qa hb7 ht7);clear hb7 ht7))
      go_roundg (gk-1)
      case measure=>omega
      case rel=>exact⟨j2+1,bs7,_,v7,by omega,by go_num,HY.out.2,HX.out.2.1.1,by rw[HX.out.2.1.2,List.take_succ_eq_append_getElem hlt2,List.append_assoc],HX.out.2.2.1.trans ((HX.out.2.2.2.mono hbase).trans HY.out.1)⟩
     ·obtain rfl:j2=es.length:=by omega
      rw[List.take_length] at hl2
      obtain⟨A7,c7,hv7,hr7,hc7⟩:=QC ht2.own
      subst hv7
      have hfin:QT wr w2.heap.size n (ds++es):=⟨A7,c7,bs2,ts2,by rw[List.length_append];exact ht2.blk,hr7,hc7,⟨ht2.nodes,XO ht2.own⟩,hp2,hl2,fun d hd=>by
       rcases List.mem_append.1 hd with h|h
       ·exact hFds d h
       ·exact HA.out.1 d h⟩
      have HZ:=hid (Qa hfin hbw)
      clear hfin hbw hr7 hl2 hp2 ht2 hb2 hFds
      go_wp2_with fail
      go_ret2
      exact⟨_,rfl,HZ.out.2,HZ.out.1⟩
namespace Lx
def cmpB (x y:UInt8):Int:=if x<y then -1 else if y<x then 1 else 0
def cmp:List UInt8→List UInt8→Int
 |[],[]=>0
 |[],_ :: _=> -1
 |_ :: _,[]=>1
 |x :: xs,y :: ys=>if cmpB x y≠0 then cmpB x y else cmp xs ys
end Lx
theorem Vx (x:UInt8)(w:World):Calls Tryz.prog 212 #[b8 x] w fun e w'=>e= .returned (.bool false)∧w=w':=by
 go_enter Tryz.func212,Tryz.ntmps212
 go_wp2_with fail
 go_ret
 exact⟨by simp,rfl⟩
theorem K0 (x y:UInt8):n8 x<n8 y↔x<y:=by unfold n8;rw[UInt8.lt_iff_toNat_lt];omega
theorem Ud (x y:UInt8)(w:World):Calls Tryz.prog 192 #[b8 x,b8 y] w fun e w'=>e= .returned (.int .i64 (Lx.cmpB x y))∧w=w':=by
 by_cases h1:x<y
 ·have i1:n8 x<n8 y:=(K0 x y).2 h1
  have HE:=hid (show Lx.cmpB x y= -1 by simp[Lx.cmpB,h1])
  clear h1
  go_enter Tryz.func192,Tryz.ntmps192
  go_wp2_with (go_at_call 212;refine (Vx _ _).mono ?_;rintro e w1 ⟨rfl,rfl⟩)
  go_ret
  exact⟨by rw[HE.out];rfl,rfl⟩
 ·have i1:¬n8 x<n8 y:=fun h=>h1 ((K0 x y).1 h)
  by_cases h2:y<x
  ·have i2:n8 y<n8 x:=(K0 y x).2 h2
   have HE:=hid (show Lx.cmpB x y=1 by simp[Lx.cmpB,h1,h2])
   clear h1 h2
   go_enter Tryz.func192,Tryz.ntmps192
   go_wp2_with (go_at_call 212;refine (Vx _ _).mono ?_;rintro e w1 ⟨rfl,rfl⟩)
   go_ret
   exact⟨by rw[HE.out];rfl,rfl⟩
  ·have i2:¬n8 y<n8 x:=fun h=>h2 ((K0 y x).1 h)
   have HE:=hid (show Lx.cmpB x y=0 by simp[Lx.cmpB,h1,h2])
   clear h1 h2
   go_enter Tryz.func192,Tryz.ntmps192
   go_wp2_with (go_at_call 212;refine (Vx _ _).mono ?_;rintro e w1 ⟨rfl,rfl⟩)
   go_ret
   exact⟨by rw[HE.out];rfl,rfl⟩
theorem Ye {w:World}{A:Option Addr}{xs:List UInt8}(h:Rd w A (xs.map b8))(k:Nat)(hk:k<xs.length):∃ g o,A=some ⟨g,o,none⟩∧w.cell? ⟨g,o+k,none⟩=some (b8 xs[k]):=by
 obtain⟨g,o,e,hr⟩:=h (by intro e;have:=congrArg List.length e;simp at this;rw[this] at hk;simp at hk)
 exact⟨g,o,e,hr k _ (by simp[hk])⟩
theorem Qdi (xs ys:List UInt8)(A1 A2:Option Addr)(c1 c2:Nat)(w:World)(h1:Rd w A1 (xs.map b8))(h2:Rd w A2 (ys.map b8))(hl:xs.length<1099511627776):
 Calls Tryz.prog 145 #[.slice A1 xs.length c1,.slice A2 ys.length c2] w fun e w'=>e= .returned (.int .i64 (Lx.cmp xs ys))∧w=w':=by
 have HR:=hid (Qa h1 h2)
 clear h1 h2
 go_enter Tryz.func145,Tryz.ntmps145
 go_wp2_with fail
 go_loopg [11] xs.length (fun g i wr=>∃ k:Nat,k+g=xs.length∧k≤ys.length∧i= .int .i64 k∧Lx.cmp xs ys=Lx.cmp (xs.drop k) (ys.drop k)∧wr=w)
 case atStart=>exact⟨0,by omega,by omega,rfl,by simp,rfl⟩
 case round=>
  obtain⟨k,hk,hky,rfl,he,rfl⟩:=hrel
  have HE:=hid he
  clear he
  by_cases hlt:k<xs.length
  ·obtain⟨g1,o1,rfl,d1⟩:=Ye HR.out.1 k hlt
   have ex:xs.drop k=xs[k] :: xs.drop (k+1):=List.drop_eq_getElem_cons hlt
   by_cases hly:k<ys.length
   ·obtain⟨g2,o2,rfl,d2⟩:=Ye HR.out.2 k hly
    have ey:ys.drop k=ys[k] :: ys.drop (k+1):=List.drop_eq_getElem_cons hly
    have j1:¬(ys.length:Int)≤(k:Int):=by omega
    by_cases hc:Lx.cmpB xs[k] ys[k]=0
    ·have hn:Lx.cmp xs ys=Lx.cmp (xs.drop (k+1)) (ys.drop (k+1)):=by rw[HE.out,ex,ey,Lx.cmp,if_neg (by rw[hc];simp)]
     have HN:=hid (Qa hn hc)
     clear hn hc ex ey
     go_wp2_with (go_at_call 192;refine (Ud _ _ _).mono ?_;rw[HN.out.2];rintro e w1 ⟨rfl,rfl⟩)
     go_roundg (gk-1)
     case measure=>omega
     case rel=>exact⟨k+1,by omega,by omega,by go_num,HN.out.1,rfl⟩
    ·have hn:Lx.cmp xs ys=Lx.cmpB xs[k] ys[k]:=by rw[HE.out,ex,ey,Lx.cmp,if_pos hc]
     have hcb:(Lx.cmpB xs[k] ys[k] != 0)=true:=by rw[bne_iff_ne];exact hc
     have HN:=hid hn
     clear hn hc ex ey
     go_wp2_with (go_at_call 192;refine (Ud _ _ _).mono ?_;rintro e w1 ⟨rfl,rfl⟩)
     go_ret
     exact⟨by rw[HN.out];rfl,rfl⟩
   ·have ey:ys.drop k=[]:=List.drop_eq_nil_of_le (by omega)
    have hn:Lx.cmp xs ys=1:=by rw[HE.out,ex,ey,Lx.cmp]
    have j1:(ys.length:Int)≤(k:Int):=by omega
    have HN:=hid hn
    clear hn ex ey
    go_wp2_with fail
    go_ret
    exact⟨by rw[HN.out];rfl,rfl⟩
  ·have ex:xs.drop k=[]:=List.drop_eq_nil_of_le (by omega)
   by_cases hly:xs.length<ys.length
   ·have j1:(xs.length:Int)< (ys.length:Int):=by omega
    have hn:Lx.cmp xs ys= -1:=by rw[HE.out,ex,List.drop_eq_getElem_cons (show k<ys.length by omega),Lx.cmp]
    have HN:=hid hn
    clear hn ex
    go_wp2_with fail
    go_ret
    exact⟨by rw[HN.out];rfl,rfl⟩
   ·have j1:¬(xs.length:Int)< (ys.length:Int):=by omega
    have hn:Lx.cmp xs ys=0:=by rw[HE.out,ex,List.drop_eq_nil_of_le (show ys.length≤k by omega),Lx.cmp]
    have HN:=hid hn
    clear hn ex
    go_wp2_with fail
    go_ret
    exact⟨by rw[HN.out];rfl,rfl⟩
theorem Y0 (A1 A2 A:Option Addr)(k key:List UInt8)(c1 v2 c2 c:Nat)(w:World)(h1:Rd w A1 (k.map b8))(h:Rd w A (key.map b8))(hl:k.length<1099511627776):
 Calls Tryz.prog 144 #[.agg #[.slice A1 k.length c1,.slice A2 v2 c2],.slice A key.length c] w fun e w'=>e= .returned (.int .i64 (Lx.cmp k key))∧Below w.heap.size w w':=by
 have hbx:=Qb w (.cells #[.slice A1 k.length c1,.slice A2 v2 c2] 166)
 have HB:=hid (Qa hbx (Qa (h1.grown hbx) (h.grown hbx)))
 clear hbx h1 h
 go_enter Tryz.func144,Tryz.ntmps144
 go_wp2_with (go_at_call 145;refine (Qdi k key A1 A c1 c _ HB.out.2.1 HB.out.2.2 hl).mono ?_;rintro e w1 ⟨rfl,rfl⟩)
 go_ret
 exact⟨rfl,HB.out.1⟩
abbrev Qg3:Value:= .func (Fn.func 144) #[] #[]
def fnd (ps:List Pr)(i:Nat)(key:List UInt8):Bool:=match ps[i]? with|some p=>Lx.cmp p.key key == 0|none=>false
theorem Ue [Inhabited LoT](A Ak:Option Addr)(c ck:Nat)(L:List (List Value))(ps:List Pr)(key:List UInt8)(w:World)(hA:Rd w A L.flatten)(hP:Ql w L ps)(hk:Rd w Ak (key.map b8))(hn:ps.length<1099511627776)(hkl:∀ p∈ps,p.key.length<1099511627776)
 (hmono:∀ (i j:Nat) (p q:Pr),i<j→ps[i]?=some p→ps[j]?=some q→Lx.cmp q.key key<0→Lx.cmp p.key key<0):
 Calls Tryz.prog 143 #[.slice A ps.length c,.slice Ak key.length ck,Qg3] w fun e w'=>∃ (i:Nat),e= .returned (.tuple #[.int .i64 i,.bool (fnd ps i key)])∧Below w.heap.size w w'∧i≤ps.length∧
  (∀ (j:Nat) (p:Pr),j<i→ps[j]?=some p→Lx.cmp p.key key<0)∧(∀ (j:Nat) (p:Pr),i≤j→ps[j]?=some p→¬Lx.cmp p.key key<0):=by
 have HA:=hid (Qa hA (Qa hP (Qa hk (Qa hkl hmono))))
 clear hA hP hk hkl hmono
 go_enter Tryz.func143,Tryz.ntmps143
 go_wp2_with fail
 go_loopg [9,10] ps.length (fun g s9 s10 wr=>∃ i j:Nat,j-i=g∧i≤j∧j≤ps.length∧s9= .int .i64 i∧s10= .int .i64 j∧Below w.heap.size w wr∧(∀ (t:Nat) (p:Pr),t<i→ps[t]?=some p→Lx.cmp p.key key<0)∧(∀ (t:Nat) (p:Pr),j≤t→ps[t]?=some p→¬Lx.cmp p.key key<0))
 case atStart=>exact⟨0,ps.length,by omega,by omega,by omega,rfl,rfl,Below.refl _ _,fun t p h=>by omega,fun t p h h2=>by rw[List.getElem?_eq_none h] at h2;cases h2⟩
 case round=>
  obtain⟨i,j,hg,hij,hjn,rfl,rfl,hb,hlo,hhi⟩:=hrel
  have HI:=hid (Qa hb (Qa hlo hhi))
  clear hb hlo hhi
  by_cases hlt:i<j
  ·obtain⟨h,hh⟩:∃ h,h=(i+j) / 2:=⟨_,rfl⟩
   have hmid:((i:Int)+(j:Int)) / 2=(h:Int):=by omega
   have hhl:h<ps.length:=by omega
   have hhj:i≤h∧h<j:=by omega
   obtain⟨k,v,hq⟩:∃ k v,ps[h]?=some ⟨k,v⟩:=⟨ps[h].key,ps[h].val,by simp[hhl]⟩
   have hL:=HA.out.2.1.len
   have hjl:h<L.length:=by omega
   obtain⟨g,o,rfl,hr⟩:=HA.out.1 (by
    intro e
    have:=Qk 2 _ HA.out.2.1.two
    rw[e] at this
    simp at this;omega)
   have hp:=Qt hr HA.out.2.1.two h hjl
   obtain⟨A1,c1,A2,c2,hx,hr1,hr2,hc1,hc2,-⟩:=HA.out.2.1.at_ h L[h] ⟨k,v⟩ (by simp[hjl]) hq
   rw[hx] at hp
   simp only[] at hp hr1 hr2
   have hlb:=Qo hp (by simp)
   have hp2:=Qh hp HI.out.1 hlb
   have hkl2:=HA.out.2.2.2.1 ⟨k,v⟩ (by rw[← (List.getElem?_eq_some_iff.1 hq).2];exact List.getElem_mem _)
   have hcall:=Y0 A1 A2 Ak k key c1 v.length c2 ck wr (hr1.grown HI.out.1) (HA.out.2.2.1.grown HI.out.1) hkl2
   have HC:=hid (Qa hcall (Qa hq hh))
   clear hcall hq hr hp hx hr1 hr2 hc1 hc2 hL hkl2 hh
   by_cases hneg:Lx.cmp k key<0
   ·go_wp2_with (first
     |((with_reducible refine Qf 166 (.tmp 27) g (o+h*2) _ 2 _ rfl hp2 Tryz.underlying166 rfl (by kernel_rfl) ?_ ?_ ?_ ?_);rfl;rfl;rfl)
     |(go_at_call 144;refine HC.out.1.mono ?_;rintro e w2 ⟨rfl,hb2⟩;have HB:=hid hb2;clear hb2))
    go_roundg (j-(h+1))
    case measure=>omega
    case rel=>
     refine⟨h+1,j,rfl,by omega,hjn,by go_num,rfl,HI.out.1.trans (HB.out.mono HI.out.1.size),?_,HI.out.2.2⟩
     intro t p ht hpt
     rcases Nat.lt_or_ge t h with h9|h9
     ·exact HA.out.2.2.2.2 t h p ⟨k,v⟩ h9 hpt HC.out.2.1 hneg
     ·obtain rfl:t=h:=by omega
      rw[HC.out.2.1] at hpt;cases hpt;exact hneg
   ·go_wp2_with (first
     |((with_reducible refine Qf 166 (.tmp 27) g (o+h*2) _ 2 _ rfl hp2 Tryz.underlying166 rfl (by kernel_rfl) ?_ ?_ ?_ ?_);rfl;rfl;rfl)
     |(go_at_call 144;refine HC.out.1.mono ?_;rintro e w2 ⟨rfl,hb2⟩;have HB:=hid hb2;clear hb2))
    go_roundg (h-i)
    case measure=>omega
    case rel=>
     refine⟨i,h,rfl,hhj.1,by omega,rfl,rfl,HI.out.1.trans (HB.out.mono HI.out.1.size),HI.out.2.1,?_⟩
     intro t p ht hpt
     refine Int.not_lt.1 fun hc=>?_
     rcases Nat.lt_or_ge h t with h9|h9
     ·have:=HA.out.2.2.2.2 h t ⟨k,v⟩ p h9 HC.out.2.1 hpt hc;simp only[] at this;omega
     ·obtain rfl:t=h:=by omega
      rw[HC.out.2.1] at hpt;cases hpt;simp only[] at hc;omega
  ·obtain rfl:i=j:=by omega
   by_cases hin:i<ps.length
   ·obtain⟨k,v,hq⟩:∃ k v,ps[i]?=some ⟨k,v⟩:=⟨ps[i].key,ps[i].val,by simp[hin]⟩
    have hL:=HA.out.2.1.len
    have hjl:i<L.length:=by omega
    obtain⟨g,o,rfl,hr⟩:=HA.out.1 (by
     intro e
     have:=Qk 2 _ HA.out.2.1.two
     rw[e] at this
     simp at this;omega)
    have hp:=Qt hr HA.out.2.1.two i hjl
    obtain⟨A1,c1,A2,c2,hx,hr1,hr2,hc1,hc2,-⟩:=HA.out.2.1.at_ i L[i] ⟨k,v⟩ (by simp[hjl]) hq
    rw[hx] at hp
    simp only[] at hp hr1 hr2
    have hlb:=Qo hp (by simp)
    have hp2:=Qh hp HI.out.1 hlb
    have hkl2:=HA.out.2.2.2.1 ⟨k,v⟩ (by rw[← (List.getElem?_eq_some_iff.1 hq).2];exact List.getElem_mem _)
    have hcall:=Y0 A1 A2 Ak k key c1 v.length c2 ck wr (hr1.grown HI.out.1) (HA.out.2.2.1.grown HI.out.1) hkl2
    have HC:=hid (Qa hcall hq)
    clear hcall hq hr hp hx hr1 hr2 hc1 hc2 hL hkl2
    have d0:wr.cell? ⟨g,o+i*2,none⟩=some (.slice A1 k.length c1):=hp2 0 _ rfl
    have d1:wr.cell? ⟨g,o+i*2+1,none⟩=some (.slice A2 v.length c2):=hp2 1 _ rfl
    go_wp2_with (first
     |((with_reducible refine Qf 166 (.tmp 43) g (o+i*2) _ 2 _ rfl hp2 Tryz.underlying166 rfl (by kernel_rfl) ?_ ?_ ?_ ?_);rfl;rfl;rfl)
     |(go_at_call 144;refine HC.out.1.mono ?_;rintro e w2 ⟨rfl,hb2⟩;have HB:=hid hb2;clear hb2))
    go_ret2
    refine⟨i,?_,HI.out.1.trans (HB.out.mono HI.out.1.size),hjn,HI.out.2.1,fun t p h1 h2=>?_⟩
    ·unfold fnd;rw[HC.out.2];rfl
    ·exact HI.out.2.2 t p h1 h2
   ·go_wp2_with fail
    go_ret2
    refine⟨i,?_,HI.out.1,hjn,HI.out.2.1,fun t p h1 h2=>?_⟩
    ·unfold fnd;rw[List.getElem?_eq_none (by omega)];rfl
    ·exact HI.out.2.2 t p h1 h2
theorem Qdj [Inhabited LoT](A Ak:Option Addr)(c ck:Nat)(L:List (List Value))(ps:List Pr)(key:List UInt8)(w:World)(hA:Rd w A L.flatten)(hP:Ql w L ps)(hk:Rd w Ak (key.map b8))(hn:ps.length<1099511627776)(hkl:∀ p∈ps,p.key.length<1099511627776)
 (hmono:∀ (i j:Nat) (p q:Pr),i<j→ps[i]?=some p→ps[j]?=some q→Lx.cmp q.key key<0→Lx.cmp p.key key<0):
 Calls Tryz.prog 94 #[.slice A ps.length c,.slice Ak key.length ck] w fun e w'=>∃ (i:Nat),e= .returned (.tuple #[.int .i64 i,.bool (fnd ps i key)])∧Below w.heap.size w w'∧i≤ps.length∧
  (∀ (j:Nat) (p:Pr),j<i→ps[j]?=some p→Lx.cmp p.key key<0)∧(∀ (j:Nat) (p:Pr),i≤j→ps[j]?=some p→¬Lx.cmp p.key key<0):=by
 have HC:=hid (Ue A Ak c ck L ps key w hA hP hk hn hkl hmono)
 clear hA hP hk hkl hmono
 go_enter Tryz.func94,Tryz.ntmps94
 go_wp2_with (go_at_call 143;refine HC.out.mono ?_;rintro e w1 ⟨i,rfl,hb,h1,h2,h3⟩;have HB:=hid (Qa hb (Qa h1 (Qa h2 h3)));clear hb h1 h2 h3)
 go_ret2
 exact⟨i,rfl,HB.out⟩
end Go.Proofs.YtpnakfeafekneaaGreatDoor
