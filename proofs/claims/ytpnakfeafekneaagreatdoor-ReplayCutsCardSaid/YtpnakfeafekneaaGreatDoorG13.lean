/- Part 13 of this proof. -/
import Derived.Great.BuildSlice
import Derived.Test.YtpnakfeafekneaaGreatDoorG10
import Derived.Test.YtpnakfeafekneaaGreatDoorG12
set_option linter.unusedSimpArgs false
set_option linter.unusedVariables false
set_option maxHeartbeats 8000000
set_option maxRecDepth 100000
namespace Go.Proofs.YtpnakfeafekneaaGreatDoor
open Go.RowKit
section
variable {P:Program}
theorem Ya {α:Type}(s:Nat)(hs:0<s):∀ (L:List (List α)) (k:Nat),(∀ x∈L,x.length=s)→L.flatten[k]?=(L[k / s]?).bind (fun x=>x[k % s]?)
 |[],k,_=>by simp
 |x :: L,k,h=>by
  have hx:=h x (by simp)
  rw[List.flatten_cons]
  by_cases hk:k<s
  ·rw[List.getElem?_append_left (by omega),Nat.div_eq_of_lt hk,Nat.mod_eq_of_lt hk];simp
  ·rw[List.getElem?_append_right (by omega),Ya s hs L (k-x.length) (fun y hy=>h y (by simp[hy])),hx]
   have e1:k / s=(k-s) / s+1:=by rw[← Nat.add_div_right _ hs];congr 1;omega
   have e2:k % s=(k-s) % s:=by rw[← Nat.mod_eq_sub_mod (by omega)]
   rw[e1,e2];simp
theorem Xc {α:Type}(s:Nat):∀ (L:List (List α)),(∀ x∈L,x.length=s)→L.flatten.length=L.length*s
 |[],_=>by simp
 |x :: L,h=>by rw[List.flatten_cons,List.length_append,h x (by simp),Xc s L (fun y hy=>h y (by simp[hy])),List.length_cons,Nat.add_mul];omega
theorem QY {ops:Array Oper}{rest:List Oper}{o:Oper}{a:Act}{w:World}{Q:Exit→Act→World→Prop}(t e:TypeId)(len:Nat)(parts:Array (Nat×Operand))(L:List (List Value))(s:Nat)(hs:0<s)(hl:∀ x∈L,x.length=s)(hlen:L.length=len)(hpos:0<len)(hsmall:len*s≤2^24)
 (hu:P.underlying t=some (.slice e)) (hinfo:(P.info? e).map (fun i=>(i.size,i.zero.isSome))=some (s,true))
 (hg:o.guard=none) (ho:o.op= .buildSlice t len parts) (hparts:parts.toList.map (fun x=>(x.1,a.eval x.2))=((L.map fun l=>Value.agg l.toArray).zipIdx 0).map fun x=>(x.2,x.1))
 (h:wpList P ops Q rest (a.put o.dst (.slice (some ⟨w.heap.size,0,none⟩) len len)) (w.alloc (.cells L.flatten.toArray e))):wpList P ops Q (o :: rest) a w:=by
 cases hie:P.info? e with
 |none=>simp[hie] at hinfo
 |some ie=>
  simp only[hie,Option.map_some,Option.some.injEq,Prod.mk.injEq] at hinfo
  obtain⟨hsz,hz⟩:=hinfo
  obtain⟨z,hzz⟩:=Option.isSome_iff_exists.1 hz
  have hlp:0<len*s:=Nat.mul_pos hpos hs
  obtain⟨r,hr,hrs,hk⟩:=Great.fill_dense hs (L.map fun l=>Value.agg l.toArray) 0 ((Array.range (len*s)).map (z.cells[· % z.cells.size]!)) (fun v hv=>by
   obtain⟨l,hl',rfl⟩:=List.mem_map.1 hv
   simp[Value.cells,hl l hl']) (by simp[hlen])
  have e1:r=L.flatten.toArray:=by
   apply Array.ext_getElem?
   intro k
   rw[hk]
   simp only[Nat.zero_mul,Nat.zero_le,true_and,List.length_map,Nat.zero_add,Nat.sub_zero,hlen]
   by_cases hk':k<len*s
   ·rw[if_pos hk',List.getElem?_toArray,Ya s hs L k hl]
    rw[List.getElem?_map]
    cases L[k / s]?<;>simp[Value.cells]
   ·rw[if_neg hk',Array.getElem?_eq_none (by simp;omega),Array.getElem?_eq_none (by rw[List.size_toArray,Xc s L hl,hlen];omega)]
  subst e1
  refine wpList_buildSlice hg t e len parts ho _ ie z hu hie hzz (by rw[hsz];omega) (by rw[hsz];omega) ?_ h
  rw[Array.toList_map,hparts,hsz]
  exact hr
end
structure Two (l r:List UInt8) (w w1:World):Prop where
 size:w1.heap.size=w.heap.size+1+1
 b1:Blk w1 w.heap.size 40 (l.map b8)
 b2:Blk w1 (w.heap.size+1) 40 (r.map b8)
 bl:Below w.heap.size w w1
theorem Two.new (l r:List UInt8)(w:World):Two l r w ((w.alloc (.cells (l.map b8).toArray 40)).alloc (.cells (r.map b8).toArray 40)):=by
 refine⟨by simp,(Blk.new w _ _).alloc _,?_,((Below.refl _ _).alloc (Nat.le_refl _) _).alloc (by simp) _⟩
 have:=Blk.new (w.alloc (.cells (l.map b8).toArray 40)) 40 (r.map b8)
 rwa [show (w.alloc (.cells (l.map b8).toArray 40)).heap.size=w.heap.size+1 by simp] at this
theorem JB {B g:Nat}{w0 w:World}{l:List UInt8}(p:List UInt8)(m:Nat)(A:Option Addr)(c:Nat)(h:Wr B g w0 w l)(hm:p.length=m)(hp:Rd w A (p.map b8))(hlen:l.length+p.length<70368744177664):
 Calls Tryz.prog 128 #[.pointer (some ⟨g,0,none⟩),.slice A m c] w fun e w'=>e= .returned (.tuple #[])∧Wr B g w0 w' (l++p):=by
 subst hm
 exact (Vp g l p A c w h.wr hp hlen).mono fun _ _ ⟨h1,h2,h3⟩=>⟨h1,h.step h2 h3⟩
theorem Qbi {B g:Nat}{w0 w:World}{l:List UInt8}(x:UInt8)(h:Wr B g w0 w l)(hlen:l.length<35184372088832):
 Calls Tryz.prog 126 #[.pointer (some ⟨g,0,none⟩),b8 x] w fun e w'=>e= .returned (.tuple #[])∧Wr B g w0 w' (l++[x]):=
 (We g l x w h.wr hlen).mono fun _ _ ⟨h1,h2,h3⟩=>⟨h1,h.step h2 h3⟩
theorem Qho {B g:Nat}{w0 w:World}{l:List UInt8}(v:Nat)(h:Wr B g w0 w l)(hv:v<65536)(hlen:l.length<17592186044416):
 Calls Tryz.prog 136 #[.pointer (some ⟨g,0,none⟩),.int .u16 v] w fun e w'=>e= .returned (.tuple #[])∧Wr B g w0 w' (l++Wi.wide v 2):=
 (Qal g l v w hv h.wr hlen).mono fun _ _ ⟨h1,h2,h3⟩=>⟨h1,h.step h2 h3⟩
theorem Qgn {B g:Nat}{w0 w:World}{l:List UInt8}(v:Nat)(h:Wr B g w0 w l)(hlen:l.length<17592186044416):
 Calls Tryz.prog 127 #[.pointer (some ⟨g,0,none⟩),.int .u64 v] w fun e w'=>e= .returned (.tuple #[])∧Wr B g w0 w' (l++Wi.wide v 8):=
 (Qfh g l v w h.wr hlen).mono fun _ _ ⟨h1,h2,h3⟩=>⟨h1,h.step h2 h3⟩
theorem Ki {B g:Nat}{w0 w:World}{l:List UInt8}(v:Nat)(h:Wr B g w0 w l)(hv:v<18446744073709551616)(hlen:l.length<17592186044416):
 Calls Tryz.prog 110 #[.pointer (some ⟨g,0,none⟩),.int .u64 v] w fun e w'=>e= .returned (.tuple #[])∧Wr B g w0 w' (l++Wi.uvar v):=
 (K6 g l v w hv h.wr hlen).mono fun _ _ ⟨h1,h2,h3⟩=>⟨h1,h.step h2 h3⟩
theorem Qdc {B g:Nat}{w0 w:World}{l:List UInt8}(p:List UInt8)(m:Nat)(A:Option Addr)(c:Nat)(h:Wr B g w0 w l)(hm:p.length=m)(hp:Rd w A (p.map b8))(hB:p≠[]→∀ ad,A=some ad→ad.block<B)(hBw:B≤w.heap.size)(hlen:l.length+p.length<4398046511104):
 Calls Tryz.prog 134 #[.pointer (some ⟨g,0,none⟩),.slice A m c] w fun e w'=>e= .returned (.tuple #[])∧Wr B g w0 w' (l++Wi.blob p):=by
 subst hm
 refine (K7 g l p A c w h.wr hp (fun hn ad e hs=>?_) hlen).mono fun _ _ ⟨h1,h2,h3⟩=>⟨h1,h.step h2 h3⟩
 have h1:=hB hn ad e
 have h2:=h.far ad.block (by omega) hs
 omega
theorem Zm {B g:Nat}{w0 w:World}{l:List UInt8}(h:Wr B g w0 w l)(hlen:l.length<17592186044416):
 Calls Tryz.prog 112 #[.pointer (some ⟨g,0,none⟩)] w fun e w'=>∃ A c,e= .returned (.slice A l.length c)∧Below B w0 w'∧Below w.heap.size w w'∧Rd w' A (l.map b8)∧l.length≤c:=by
 refine (Kf g l w h.wr hlen).mono fun e w' hN=>?_
 obtain⟨A,c,he,hb,hr,hc⟩:=Kh hN
 refine⟨A,c,he,h.bl.trans (hb.mono ?_),hb,hr,hc⟩
 have h1:=h.wr.lt
 have:=h.far g h1 (.inl rfl)
 omega
theorem Qbj (n:Nat)(h1:1≤n)(h2:n≤32)(l r:List UInt8)(w:World)(hf:XZ n [l,r]):
 Calls Tryz.prog 220 #[.int .i64 n,dg l,dg r] w fun e w'=>∃ A c,e= .returned (.tuple #[.slice A (Dg.nodeIn n l r).length c,.int .i64 0])∧Below w.heap.size w w'∧Rd w' A ((Dg.nodeIn n l r).map b8)∧(Dg.nodeIn n l r).length≤c:=by
 have hl:(l.map b8).length=32:=by simp[(hf l (by simp)).1]
 have hr:(r.map b8).length=32:=by simp[(hf r (by simp)).1]
 have HF:=hid hf
 have HLl:=hid hl
 have HLr:=hid hr
 clear hf hl hr
 go_enter Tryz.func220,Tryz.ntmps220
 go_upto_region 1 with fail
 refine Qe (Two l r w) (Two.new l r w) ?_
 rintro w1 hr
 have HR:=hid hr
 clear hr
 have hs1:=QH (P:=Tryz.prog) Tryz.underlying40 (by kernel_rfl) w.heap.size 0 n h2
 have hs2:=QH (P:=Tryz.prog) Tryz.underlying40 (by kernel_rfl) (w.heap.size+1) 0 n h2
 have hfl:(Dg.nodeIn n l r).length<17592186044416:=by simp[Dg.nodeIn];omega
 have HNL:=hid hfl
 have hlen2:(dgs [l,r]).length=2:=rfl
 have hdl:=Q3 fun d hd=>(HF.out d hd).1
 clear hfl
 go_upto_region 5 with (first
  |((with_reducible refine Qf 40 (.tmp 4) w.heap.size 0 _ 32 _ HLl.out HR.out.b1.whole Tryz.underlying40 rfl (by kernel_rfl) ?_ ?_ ?_ ?_);rfl;rfl;rfl)
  |((with_reducible refine Qf 40 (.tmp 5) (w.heap.size+1) 0 _ 32 _ HLr.out HR.out.b2.whole Tryz.underlying40 rfl (by kernel_rfl) ?_ ?_ ?_ ?_);rfl;rfl;rfl)
  |((with_reducible refine QY 105 40 2 #[(0,.tmp 11),(1,.tmp 12)] (dgs [l,r]) 32 (by decide) hdl hlen2 (by decide) (by decide) Tryz.underlying105 (by kernel_rfl) ?_ ?_ ?_ ?_);rfl;rfl;rfl)
  |(go_at_call 125
    refine (K8 n h1 h2 _ 2 [l,r] _ HF.out (Rd.of _ (Blk.new w1 _ (dgs [l,r]).flatten).whole) (by simp)).mono ?_
    rintro e w2 ⟨rfl,hb⟩
    have hbl:=(Qb w1 (.cells (dgs [l,r]).flatten.toArray 40)).trans (hb.mono (by simp))
    have HB:=hid hbl;clear hb hbl))
 have hwr:=Wr.new w2
 have hq1:=(HR.out.b1.grown HB.out).grown hwr.bl
 have hq2:=(HR.out.b2.grown HB.out).grown hwr.bl
 refine Qe (fun w'=>Wr w2.heap.size w2.heap.size w2 w' []) hwr ?_
 rintro w3 hr
 have HW:=hid hr
 have HQ:=hid (Qa (HR.out.b1.grown HB.out) (HR.out.b2.grown HB.out))
 clear hr hwr hq1 hq2
 have htl:(l.take n).length=n:=by have:=HLl.out;simp at this ⊢;omega
 have htr:(r.take n).length=n:=by have:=HLr.out;simp at this ⊢;omega
 have HT:=hid (Qa htl htr)
 clear htl htr
 go_wp2_with (first
  |(go_at_call 126
    refine (Qbi 1 HW.out (by simp)).mono ?_
    rintro e w4 ⟨rfl,h⟩
    have HS:=hid h
    clear h)
  |(go_at_call 128
    refine (JB (l.take n) n (some ⟨w.heap.size,0,none⟩) 32 HS.out HT.out.1 ?_ (by have:=HT.out.1;simp at this ⊢;omega)).mono ?_
    ·rw[List.map_take];exact Rd.take (Rd.of _ (HQ.out.1.grown HS.out.bl).whole) n
    rintro e w5 ⟨rfl,h⟩
    have HX:=hid h
    clear h)
  |(go_at_call 128
    refine (JB (r.take n) n (some ⟨w.heap.size+1,0,none⟩) 32 HX.out HT.out.2 ?_ (by have:=HT.out.1;have:=HT.out.2;simp at *;omega)).mono ?_
    ·rw[List.map_take];exact Rd.take (Rd.of _ (HQ.out.2.grown HX.out.bl).whole) n
    rintro e w6 ⟨rfl,h⟩
    have HY:=hid h
    clear h)
  |(go_at_call 112
    have el:[]++[(1:UInt8)]++l.take n++r.take n=Dg.nodeIn n l r:=by simp[Dg.nodeIn]
    have hY:=HY.out
    rw[el] at hY
    refine (Zm hY HNL.out).mono ?_
    rintro e w7 ⟨A,c,rfl,h1,h2,h3,h4⟩
    have HZ:=hid (Qa h1 (Qa h3 h4))
    clear h1 h2 h3 h4 hY el))
 go_ret2
 exact⟨A,c,rfl,HR.out.bl.trans ((HB.out.mono HR.out.bl.size).trans (HZ.out.1.mono (Nat.le_trans HR.out.bl.size HB.out.size))),HZ.out.2.1,HZ.out.2.2⟩
theorem Qfi (n:Nat)(h1:1≤n)(h2:n≤32)(l r:List UInt8)(w:World)(hf:XZ n [l,r])(hw:Qs w):
 Calls Tryz.prog 205 #[.int .i64 n,dg l,dg r] w fun e w'=>e= .returned (.tuple #[dg (Dg.node n l r),.int .i64 0])∧Below w.heap.size w w':=by
 have hl:(l.map b8).length=32:=by simp[(hf l (by simp)).1]
 have hr:(r.map b8).length=32:=by simp[(hf r (by simp)).1]
 have hcl:=Dg.sum_length n (Dg.nodeIn n l r) h2
 have HC:=hid (show ((Dg.node n l r).map b8).length=32 by unfold Dg.node;simp[hcl])
 have hil:(Dg.nodeIn n l r).length<576460752303423488:=by simp[Dg.nodeIn];omega
 have HL:=hid hil
 have HF:=hid hf
 have HLl:=hid hl
 have HLr:=hid hr
 clear hf hl hr hcl hil
 go_enter Tryz.func205,Tryz.ntmps205
 go_upto_region 1 with fail
 have hz:((w.alloc (.cells (l.map b8).toArray 40)).alloc (.cells (r.map b8).toArray 40)).heap.size=w.heap.size+1+1:=by simp
 have hb3:=ZH w (.cells (l.map b8).toArray 40) (.cells (List.replicate 32 (b8 0)).toArray 40) 40 (r.map b8)
 have hn3:=Blk.new ((w.alloc (.cells (l.map b8).toArray 40)).alloc (.cells (r.map b8).toArray 40)) 40 (List.replicate 32 (b8 0))
 rw[hz] at hn3
 refine Qe (fun w'=>Blk w' w.heap.size 40 (l.map b8)∧Blk w' (w.heap.size+1) 40 (r.map b8)∧Blk w' (w.heap.size+1+1) 40 (List.replicate 32 (b8 0))∧Below w.heap.size w w'∧w'.heap.size=w.heap.size+1+1+1)
  ⟨((Blk.new w _ _).alloc _).alloc _,hb3,hn3,(((Below.refl _ _).alloc (Nat.le_refl _) _).alloc (by simp) _).alloc (by rw[hz];omega) _,by simp⟩ ?_
 clear hz hb3 hn3
 rintro w1 hh
 have HR:=hid hh
 clear hh
 go_wp2_with (first
  |((with_reducible refine Qf 40 (.tmp 4) w.heap.size 0 _ 32 _ HLl.out HR.out.1.whole Tryz.underlying40 rfl (by kernel_rfl) ?_ ?_ ?_ ?_);rfl;rfl;rfl)
  |((with_reducible refine Qf 40 (.tmp 5) (w.heap.size+1) 0 _ 32 _ HLr.out HR.out.2.1.whole Tryz.underlying40 rfl (by kernel_rfl) ?_ ?_ ?_ ?_);rfl;rfl;rfl)
  |(go_at_call 220
    refine (Qbj n h1 h2 l r w1 HF.out).mono ?_
    rintro e w2 ⟨A,c,rfl,hb,hr,hc⟩
    have HV:=hid (Qa hb (Qa hr hc));clear hb hr hc)
  |(go_at_call 80
    refine (Qda n h1 h2 _ (Dg.nodeIn n l r) w2 ⟨A,c,rfl,HV.out.2.1,HV.out.2.2⟩ (hw.below (HR.out.2.2.2.1.trans (HV.out.1.mono HR.out.2.2.2.1.size))) HL.out).mono ?_
    rintro e w3 ⟨rfl,hb⟩
    have hb2:Below w1.heap.size w1 w3:=HV.out.1.trans (hb.mono HV.out.1.size)
    have ht:w3.there (w.heap.size+1+1) 0 32:=(HR.out.2.2.1.grown hb2).there 0 32 (by simp)
    have HB:=hid hb2;clear hb hb2)
  |((with_reducible refine Qv 40 (.tmp 6) (.tmp 21) (w.heap.size+1+1) 0 ((Dg.node n l r).map b8) 32 HC.out ht (by kernel_rfl) (Qi _) ?_ ?_ ?_ ?_ ?_);rfl;rfl;rfl;rfl))
 exact Q9 (w.heap.size+1+1) 0 _ 32 _ HC.out (World.rangeAt_setCells_same _ _ _ _ (by rw[HC.out];exact ht)) Tryz.underlying40 rfl (by kernel_rfl) rfl rfl rfl ⟨rfl,Qc _ (by omega) _ _ _ (HR.out.2.2.2.1.trans (HB.out.mono HR.out.2.2.2.1.size))⟩
section
variable {w w':World}
def Tyd (w:World)(t:TypeId)(A:Option Addr):Prop:=∀ a,A=some a→∃ c fz,w.heap[a.block]?=some (.cells c t fz)
theorem Tyd.none (w:World)(t:TypeId):Tyd w t none:=fun a h=>by cases h
theorem Tyd.grown {t:TypeId}{A:Option Addr}(h:Tyd w t A)(hb:Below w.heap.size w w'):Tyd w' t A:=fun a e=>by
 obtain⟨c,fz,hh⟩:=h a e
 refine⟨c,fz,?_⟩
 rw[hb.block _ ?_]
 ·exact hh
 ·rcases Nat.lt_or_ge a.block w.heap.size with hlt|hge
  ·exact hlt
  ·rw[Array.getElem?_eq_none hge] at hh;cases hh
theorem Blk.tyd {g o:Nat}{t:TypeId}{cs:List Value}(h:Blk w g t cs):Tyd w t (some ⟨g,o,Option.none⟩):=fun a e=>by cases e;exact⟨_,_,h⟩
theorem Tyd.set {t:TypeId}{A:Option Addr}(h:Tyd w t A)(p:Addr)(u:Value):Tyd (w.setCell p u) t A:=fun a e=>by
 obtain⟨c,fz,hh⟩:=h a e
 by_cases hp:a.block=p.block
 ·unfold World.setCell
  simp only
  rw[Array.getElem?_modify,if_pos hp.symm,hh]
  exact⟨_,_,rfl⟩
 ·exact⟨c,fz,by rw[Below.heap_setCell _ _ _ _ hp];exact hh⟩
theorem XO {base:Nat}{e:TypeId}{size n:Nat}{A:Option Addr}{k c:Nat}{xs:List Value}(h:w.ownsRow base e size (.slice A k c) n xs):Tyd w e A:=by
 rcases h.2 with ⟨h,_⟩|⟨g,cap,cur,h,_,hh,_⟩
 ·cases h;exact Tyd.none _ _
 ·cases h;intro a e;cases e;exact⟨_,_,hh⟩
def QQ (T:TypeId→Prop)(w w':World):Prop:=∀ (k:Nat) (t:TypeId) c fz,T t→w.heap[k]?=some (.cells c t fz)→w'.heap[k]?=some (.cells c t fz)
theorem QQ.of_grown {T:TypeId→Prop}(h:Below w.heap.size w w'):QQ T w w':=fun k t c fz _ hh=>by
 rw[h.block _ ?_]
 ·exact hh
 ·rcases Nat.lt_or_ge k w.heap.size with hlt|hge
  ·exact hlt
  ·rw[Array.getElem?_eq_none hge] at hh;cases hh
theorem QQ.trans {T:TypeId→Prop}{a b c:World}(h:QQ T a b)(k:QQ T b c):QQ T a c:=fun i t x fz ht hh=>k i t x fz ht (h i t x fz ht hh)
theorem QQ.of_kept {T:TypeId→Prop}{S:Nat→Prop}(h:Qu S w w')(hS:∀ k,S k→∀ t c fz,w.heap[k]?=some (.cells c t fz)→¬T t):QQ T w w':=fun k t c fz ht hh=>by
 rw[h.block _ ?_ (fun hk=>hS k hk t c fz hh ht)]
 ·exact hh
 ·rcases Nat.lt_or_ge k w.heap.size with hlt|hge
  ·exact hlt
  ·rw[Array.getElem?_eq_none hge] at hh;cases hh
theorem QQ.blk {T:TypeId→Prop}(h:QQ T w w'){g:Nat}{t:TypeId}{cs:List Value}(hb:Blk w g t cs)(ht:T t):Blk w' g t cs:=h _ _ _ _ ht hb
theorem QQ.tyd {T:TypeId→Prop}(h:QQ T w w'){t:TypeId}{A:Option Addr}(ha:Tyd w t A)(ht:T t):Tyd w' t A:=fun a e=>by
 obtain⟨c,fz,hh⟩:=ha a e
 exact⟨c,fz,h _ _ _ _ ht hh⟩
theorem QQ.rd {T:TypeId→Prop}(h:QQ T w w'){t:TypeId}{A:Option Addr}{cs:List Value}(hr:Rd w A cs)(ha:Tyd w t A)(ht:T t):Rd w' A cs:=fun hn=>by
 obtain⟨g,o,e,hc⟩:=hr hn
 obtain⟨c,fz,hh⟩:=ha _ e
 refine⟨g,o,e,fun j v hj=>?_⟩
 rw[← hc j v hj]
 exact World.cell?_of_block (w:=w) ((h _ _ _ _ ht hh).trans hh.symm)
structure LoT where
 lo:Nat
instance (priority:=low) zeroLo:Inhabited LoT:=⟨⟨0⟩⟩
def Lo [Inhabited LoT]:Nat:=(default:LoT).lo
theorem Lo.zero (n:Nat): @Lo zeroLo≤n:=Nat.zero_le n
def TyB [Inhabited LoT](w:World)(t:TypeId)(A:Option Addr):Prop:=Tyd w t A∧∀ a,A=some a→Lo≤a.block
theorem TyB.grown [Inhabited LoT]{t:TypeId}{A:Option Addr}(h:TyB w t A)(hb:Below w.heap.size w w'):TyB w' t A:=⟨h.1.grown hb,h.2⟩
theorem TyB.set [Inhabited LoT]{t:TypeId}{A:Option Addr}(h:TyB w t A)(p:Addr)(u:Value):TyB (w.setCell p u) t A:=⟨h.1.set p u,h.2⟩
theorem TyB.up [Inhabited LoT]{t:TypeId}{A:Option Addr}{n:Nat}(h:Tyd w t A)(hn:∀ a,A=some a→n≤a.block)(hlo:Lo≤n):TyB w t A:=⟨h,fun a e=>Nat.le_trans hlo (hn a e)⟩
theorem TyB.zero {t:TypeId}{A:Option Addr}(h:Tyd w t A): @TyB zeroLo w t A:=⟨h,fun _ _=>Nat.zero_le _⟩
theorem QQ.tyb [Inhabited LoT]{T:TypeId→Prop}(h:QQ T w w'){t:TypeId}{A:Option Addr}(ha:TyB w t A)(ht:T t):TyB w' t A:=⟨h.tyd ha.1 ht,ha.2⟩
theorem QQ.rdb [Inhabited LoT]{T:TypeId→Prop}(h:QQ T w w'){t:TypeId}{A:Option Addr}{cs:List Value}(hr:Rd w A cs)(ha:TyB w t A)(ht:T t):Rd w' A cs:=h.rd hr ha.1 ht
end
def Oth (w w':World):Prop:=∀ (k:Nat) (t:TypeId) (cs:List Value),Blk w k t cs→t≠5→t≠184→Blk w' k t cs
theorem Wr.grown {B g:Nat}{w0 w w':World}{l:List UInt8}(h:Wr B g w0 w l)(hb:Below w.heap.size w w'):Wr B g w0 w' l:=h.step (h.wr.grown hb) (WK.of_grown hb h.wr.lt)
theorem Qgz {w:World}{g k:Nat}{l:List UInt8}{t:TypeId}{cs:List Value}(h:WrB w g l)(hb:Blk w k t cs)(h1:t≠5)(h2:t≠184):¬WrS w g k:=by
 obtain⟨v,hw,hown⟩:=h
 rintro(rfl|⟨v',hw',hv⟩)
 ·unfold Blk at hb hw
  rw[hb] at hw
  injection hw with hw
  injection hw with _ ht
  exact h2 ht
 ·unfold Blk at hw hw'
  rw[hw'] at hw
  cases hw
  exact Xz hown hb (Ne.symm h1) hv
theorem Wg [Inhabited LoT]{w w':World}{g:Nat}{l:List UInt8}(h:WrB w g l)(hk:WK g w w'):Oth w w':=fun _ _ _ hb h1 h2=>hk.1.blk hb (Qgz h hb h1 h2)
theorem Kj [Inhabited LoT]{B g:Nat}{w0 w:World}{l:List UInt8}(p:List UInt8)(m:Nat)(A:Option Addr)(c:Nat)(h:Wr B g w0 w l)(hm:p.length=m)(hp:Rd w A (p.map b8))(hB:p≠[]→∀ ad,A=some ad→ad.block<B)(hBw:B≤w.heap.size)(hlen:l.length+p.length<4398046511104):
 Calls Tryz.prog 134 #[.pointer (some ⟨g,0,none⟩),.slice A m c] w fun e w'=>e= .returned (.tuple #[])∧Wr B g w0 w' (l++Wi.blob p)∧Oth w w':=by
 subst hm
 refine (K7 g l p A c w h.wr hp (fun hn ad e hs=>?_) hlen).mono fun _ _ ⟨h1,h2,h3⟩=>⟨h1,h.step h2 h3,Wg h.wr h3⟩
 have h1:=hB hn ad e
 have h2:=h.far ad.block (by omega) hs
 omega
def QO [Inhabited LoT](w:World)(x:List Value)(p:Pr):Prop:=∃ A1 c1 A2 c2,x=[.slice A1 p.key.length c1,.slice A2 p.val.length c2]∧Rd w A1 (p.key.map b8)∧Rd w A2 (p.val.map b8)∧p.key.length≤c1∧p.val.length≤c2∧TyB w 5 A1∧TyB w 5 A2
structure Ql [Inhabited LoT] (w:World) (L:List (List Value)) (ps:List Pr):Prop where
 len:L.length=ps.length
 at_:∀ (i:Nat) (x:List Value) (p:Pr),L[i]?=some x→ps[i]?=some p→QO w x p
theorem QO.grown [Inhabited LoT]{w w':World}{x:List Value}{p:Pr}(h:QO w x p)(hb:Below w.heap.size w w'):QO w' x p:=by
 obtain⟨A1,c1,A2,c2,e,h1,h2,h3,h4,h5,h6⟩:=h
 exact⟨A1,c1,A2,c2,e,h1.grown hb,h2.grown hb,h3,h4,h5.grown hb,h6.grown hb⟩
theorem Ql.grown [Inhabited LoT]{w w':World}{L:List (List Value)}{ps:List Pr}(h:Ql w L ps)(hb:Below w.heap.size w w'):Ql w' L ps:=⟨h.len,fun i x p h1 h2=>(h.at_ i x p h1 h2).grown hb⟩
theorem Ql.two [Inhabited LoT]{w:World}{L:List (List Value)}{ps:List Pr}(h:Ql w L ps):∀ x∈L,x.length=2:=by
 intro x hx
 obtain⟨i,hi,rfl⟩:=List.getElem_of_mem hx
 have hps:i<ps.length:=by have:=h.len;omega
 obtain⟨A1,c1,A2,c2,e,_⟩:=h.at_ i L[i] ps[i] (by simp[hi]) (by simp[hps])
 rw[e];rfl
def QS (ps:List Pr):Nat:=(ps.flatMap fun p=>Wi.blob p.key++Wi.blob p.val).length
theorem KM (ps:List Pr)(j:Nat)(hj:j<ps.length):(((ps.take j).flatMap fun p=>Wi.blob p.key++Wi.blob p.val)++(Wi.blob ps[j].key++Wi.blob ps[j].val)).length≤QS ps:=by
 unfold QS
 conv=>rhs;rw[← List.take_append_drop j ps,List.flatMap_append,List.length_append,List.drop_eq_getElem_cons hj,List.flatMap_cons]
 simp only[List.length_append]
 omega
theorem Vr [Inhabited LoT](A:Option Addr)(c:Nat)(L:List (List Value))(ps:List Pr)(w:World)(hA:Rd w A L.flatten)(hP:Ql w L ps)(hlen:QS ps<2199023255552)(hn:ps.length<1099511627776):
 Calls Tryz.prog 216 #[.slice A ps.length c] w fun e w'=>∃ A' c',e= .returned (.slice A' (Dg.bucketIn ps).length c')∧Below w.heap.size w w'∧Rd w' A' ((Dg.bucketIn ps).map b8)∧(Dg.bucketIn ps).length≤c':=by
 have HA:=hid (Qa hA hP)
 clear hA hP
 have hn0:(0:Int)≤(ps.length:Int)∧(ps.length:Int)<18446744073709551616:=by omega
 go_enter Tryz.func216,Tryz.ntmps216
 go_upto_region 2 with fail
 refine Qe (fun w'=>Wr w.heap.size w.heap.size w w' []) (Wr.new w) ?_
 rintro w1 hr
 have HR:=hid hr
 clear hr
 go_wp2_with (first
  |(go_at_call 126
    refine (Qbi 3 HR.out (by simp)).mono ?_
    rintro e w2 ⟨rfl,h⟩
    have HS:=hid h
    clear h)
  |(go_at_call 110
    refine (Ki ps.length HS.out (by omega) (by simp)).mono ?_
    rintro e w3 ⟨rfl,h⟩
    have HT:=hid h
    clear h))
 have hwr:=HT.out
 rw[show []++[(3:UInt8)]++Wi.uvar ps.length=3 :: Wi.uvar ps.length++(ps.take 0).flatMap (fun p=>Wi.blob p.key++Wi.blob p.val) by simp] at hwr
 have HW:=hid hwr
 clear hwr HT HS HR
 have hul:=Wi.uvar_length 9 ps.length (by omega)
 go_loopg [13] ps.length (fun g i wr=>∃ j:Nat,j+g=ps.length∧i= .int .i64 j∧Wr w.heap.size w.heap.size w wr (3 :: Wi.uvar ps.length++(ps.take j).flatMap (fun p=>Wi.blob p.key++Wi.blob p.val)))
 case atStart=>exact⟨0,by omega,rfl,HW.out⟩
 case round=>
  clear HW
  obtain⟨j,hj,rfl,hi⟩:=hrel
  have HI:=hid hi
  clear hi
  by_cases hlt:j<ps.length
  ·obtain⟨k,v,hjj⟩:∃ k v,ps[j]?=some ⟨k,v⟩:=⟨ps[j].key,ps[j].val,by simp[hlt]⟩
   have hL:=HA.out.2.len
   have hjl:j<L.length:=by omega
   obtain⟨g,o,rfl,hr⟩:=HA.out.1 (by
    intro e
    have:=Qk 2 _ HA.out.2.two
    rw[e] at this
    simp at this;omega)
   have hp:=Qt hr HA.out.2.two j hjl
   obtain⟨A1,c1,A2,c2,hx,hr1,hr2,hc1,hc2,-⟩:=HA.out.2.at_ j L[j] ps[j] (by simp[hjl]) (by simp[hlt])
   rw[hx] at hp
   have hlb:=Qo hp (by simp)
   have hp2:=Qh hp HI.out.bl hlb
   have hsz:=KM ps j hlt
   have hq:(ps.take (j+1)).flatMap (fun p=>Wi.blob p.key++Wi.blob p.val)=(ps.take j).flatMap (fun p=>Wi.blob p.key++Wi.blob p.val)++(Wi.blob ps[j].key++Wi.blob ps[j].val):=by
    rw[List.take_succ_eq_append_getElem hlt,List.flatMap_append,List.flatMap_cons,List.flatMap_nil,List.append_nil]
   rw[(List.getElem?_eq_some_iff.1 hjj).2] at hr1 hr2 hc1 hc2 hp hp2 hsz hq
   simp only[] at hr1 hr2 hc1 hc2 hp hp2 hsz hq
   simp only[List.length_append] at hsz
   have hb1:(Wi.blob k).length=(Wi.uvar k.length).length+k.length:=by simp[Wi.blob]
   have hb2:(Wi.blob v).length=(Wi.uvar v.length).length+v.length:=by simp[Wi.blob]
   have hwsz:=HI.out.bl.size
   have hl1:(3 :: Wi.uvar ps.length++(ps.take j).flatMap (fun p=>Wi.blob p.key++Wi.blob p.val)).length+k.length<4398046511104:=by
    simp only[List.length_append,List.length_cons];omega
   have hl2:(3 :: Wi.uvar ps.length++(ps.take j).flatMap (fun p=>Wi.blob p.key++Wi.blob p.val)++Wi.blob k).length+v.length<4398046511104:=by
    simp only[List.length_append,List.length_cons];omega
   have hs1:k≠[]→∀ ad,A1=some ad→ad.block<w.heap.size:=fun hn ad e=>Rd.lt hr1 (by simpa using hn) ad e
   have hs2:v≠[]→∀ ad,A2=some ad→ad.block<w.heap.size:=fun hn ad e=>Rd.lt hr2 (by simpa using hn) ad e
   have hg1:Wr w.heap.size w.heap.size w (wr.alloc (.cells #[.slice A1 k.length c1,.slice A2 v.length c2] 166)) _:=HI.out.grown (Qb wr _)
   have HX:=hid (Qa hr1 (Qa hr2 (Qa hl1 (Qa hl2 (Qa hs1 (Qa hs2 (Qa hg1 hq)))))))
   clear hr hr1 hr2 hx hp hsz hb1 hb2 hwsz hl1 hl2 hs1 hs2 hg1 hq hc1 hc2
   go_wp2_with (first
    |((with_reducible refine Qf 166 (.tmp 15) g (o+j*2) _ 2 _ rfl hp2 Tryz.underlying166 rfl (by kernel_rfl) ?_ ?_ ?_ ?_);rfl;rfl;rfl)
    |(go_at_call 134
      refine (Kj v _ A2 c2 HS.out rfl (HX.out.2.1.grown HS.out.bl) HX.out.2.2.2.2.2.1 HS.out.bl.size HX.out.2.2.2.1).mono ?_
      rintro e w5 ⟨rfl,h,-⟩
      have HT:=hid h
      clear h)
    |(go_at_call 134
      refine (Kj k _ A1 c1 HX.out.2.2.2.2.2.2.1 rfl (HX.out.1.grown HX.out.2.2.2.2.2.2.1.bl) HX.out.2.2.2.2.1 HX.out.2.2.2.2.2.2.1.bl.size HX.out.2.2.1).mono ?_
      rintro e w4 ⟨rfl,h,ho⟩
      have hbk:Blk w4 wr.heap.size 166 [.slice A1 k.length c1,.slice A2 v.length c2]:=ho _ _ _ (Blk.new wr 166 [.slice A1 k.length c1,.slice A2 v.length c2]) (by decide) (by decide)
      have c4:w4.cell? ⟨wr.heap.size,1,none⟩=some (.slice A2 v.length c2):=by rw[hbk.cell];rfl
      have HS:=hid h
      clear h ho hbk))
   go_roundg (gk-1)
   case measure=>omega
   case rel=>
    refine⟨j+1,by omega,by go_num,?_⟩
    rw[HX.out.2.2.2.2.2.2.2]
    have:=HT.out
    simpa only[List.append_assoc,List.cons_append] using this
  ·obtain rfl:j=ps.length:=by omega
   have hwr:=HI.out
   rw[List.take_length,show 3 :: Wi.uvar ps.length++ps.flatMap (fun p=>Wi.blob p.key++Wi.blob p.val)=Dg.bucketIn ps from rfl] at hwr
   have hbl:(Dg.bucketIn ps).length<17592186044416:=by
    simp only[Dg.bucketIn,List.length_cons,List.length_append]
    unfold QS at hlen
    omega
   have HW:=hid (Qa hwr hbl)
   clear hwr hbl
   go_wp2_with (
    (go_at_call 112
     refine (Zm HW.out.1 HW.out.2).mono ?_
     rintro e w7 ⟨A',c',rfl,h1,h2,h3,h4⟩
     have HZ:=hid (Qa h1 (Qa h3 h4))
     clear h1 h2 h3 h4))
   go_ret
   exact⟨A',c',rfl,HZ.out⟩
theorem Wh [Inhabited LoT](n:Nat)(h1:1≤n)(h2:n≤32)(A:Option Addr)(c:Nat)(L:List (List Value))(ps:List Pr)(w:World)(hw:Qs w)(hA:Rd w A L.flatten)(hP:Ql w L ps)(hlen:QS ps<2199023255552)(hn:ps.length<1099511627776):
 Calls Tryz.prog 199 #[.int .i64 n,.slice A ps.length c] w fun e w'=>e= .returned (.tuple #[dg (Dg.bucket n ps),.int .i64 0])∧Below w.heap.size w w':=by
 have hcl:=Dg.sum_length n (Dg.bucketIn ps) h2
 have HC:=hid (show ((Dg.bucket n ps).map b8).length=32 by unfold Dg.bucket;simp[hcl])
 have hil:(Dg.bucketIn ps).length<576460752303423488:=by
  have hul:=Wi.uvar_length 9 ps.length (by omega)
  simp only[Dg.bucketIn,List.length_cons,List.length_append]
  unfold QS at hlen
  omega
 have HL:=hid hil
 have HA:=hid (Qa hA (Qa hP (Qa hlen hn)))
 clear hcl hil hA hP hlen hn
 go_enter Tryz.func199,Tryz.ntmps199
 go_upto_region 1 with fail
 refine Qe (Res w) (Res.new w) ?_
 rintro w1 hr
 have HR:=hid hr
 clear hr
 go_wp2_with (first
  |(go_at_call 216
    refine (Vr A c L ps w1 (HA.out.1.grown HR.out.bl) (HA.out.2.1.grown HR.out.bl) HA.out.2.2.1 HA.out.2.2.2).mono ?_
    rintro e w2 ⟨A2,c2,rfl,hb,hrd,hc⟩
    have HV:=hid (Qa hb (Qa hrd hc));clear hb hrd hc)
  |(go_at_call 129
    refine (Z6 n h1 h2 _ (Dg.bucketIn ps) w2 ⟨_,_,rfl,HV.out.2.1,HV.out.2.2⟩ ((HR.out.words hw).below HV.out.1) HL.out).mono ?_
    rintro e w3 ⟨rfl,hb⟩
    have hb2:Below w1.heap.size w1 w3:=HV.out.1.trans (hb.mono HV.out.1.size)
    have ht:=HR.out.there hb2;have HB:=hid hb2;clear hb hb2)
  |((with_reducible refine Qv 40 (.tmp 4) (.tmp 11) w.heap.size 0 ((Dg.bucket n ps).map b8) 32 HC.out ht (by kernel_rfl) (Qi _) ?_ ?_ ?_ ?_ ?_);rfl;rfl;rfl;rfl))
 exact Zl HC.out ht (HR.out.below HB.out) rfl rfl rfl rfl (fun _ h=>⟨rfl,h⟩)
end Go.Proofs.YtpnakfeafekneaaGreatDoor
