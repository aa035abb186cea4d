/- Part 32 of this proof. -/
import Derived.Test.YtpnakfeafekneaaGreatDoorG31
set_option linter.unusedSimpArgs false
set_option linter.unusedVariables false
set_option maxHeartbeats 8000000
set_option maxRecDepth 100000
namespace Go.Proofs.YtpnakfeafekneaaGreatDoor
open Go.RowKit
def Hm.putStep (n:Nat)(p:Pr)(r:List Pr×Bool)(q:Pr):List Pr×Bool:=
 (if Hm.ord n p q≠0 then (if r.2=false∧Hm.ord n p q≤0 then r.1++[p] else r.1)++[q] else (if r.2=false∧Hm.ord n p q≤0 then r.1++[p] else r.1),r.2 || decide (Hm.ord n p q≤0))
theorem Hm.putStep_tn {n:Nat}{p q:Pr}{l:List Pr}(h:Hm.ord n p q<0):(l++[q],true)=Hm.putStep n p (l,true) q:=by unfold Hm.putStep;simp[show Hm.ord n p q≠0 by omega]
theorem Hm.putStep_tz {n:Nat}{p q:Pr}{l:List Pr}(h:Hm.ord n p q=0):(l,true)=Hm.putStep n p (l,true) q:=by unfold Hm.putStep;simp[h]
theorem Hm.putStep_tp {n:Nat}{p q:Pr}{l:List Pr}(h:0<Hm.ord n p q):(l++[q],true)=Hm.putStep n p (l,true) q:=by unfold Hm.putStep;simp[show Hm.ord n p q≠0 by omega]
theorem Hm.putStep_fn {n:Nat}{p q:Pr}{l:List Pr}(h:Hm.ord n p q<0):(l++[p]++[q],true)=Hm.putStep n p (l,false) q:=by unfold Hm.putStep;simp[show Hm.ord n p q≠0 by omega,show Hm.ord n p q≤0 by omega]
theorem Hm.putStep_fz {n:Nat}{p q:Pr}{l:List Pr}(h:Hm.ord n p q=0):(l++[p],true)=Hm.putStep n p (l,false) q:=by unfold Hm.putStep;simp[h]
theorem Hm.putStep_fp {n:Nat}{p q:Pr}{l:List Pr}(h:0<Hm.ord n p q):(l++[q],false)=Hm.putStep n p (l,false) q:=by unfold Hm.putStep;simp[show Hm.ord n p q≠0 by omega,show ¬Hm.ord n p q≤0 by omega]
theorem Hm.ord_neg {n:Nat}{p q:Pr}(h:Hm.cmp n p q<0):Hm.ord n p q<0:=(Hm.ord_cmp n p q).1.2 h
theorem Hm.ord_pos {n:Nat}{p q:Pr}(h:Hm.cmp n q p<0):0<Hm.ord n p q:=by
 have h1:=Hm.cmp_neg n p q
 have h2:=(Hm.ord_cmp n p q).1
 have h3:=(Hm.ord_cmp n p q).2
 apply Classical.byContradiction
 intro hh
 by_cases e:Hm.ord n p q=0
 ·have:=h3.1 e;omega
 ·have:=h2.1 (by omega);omega
theorem Hm.put_rest {n:Nat}{p:Pr}:∀ (m:List Pr) (l:List Pr),(∀ q∈m,Hm.cmp n p q<0)→m.foldl (Hm.putStep n p) (l,true)=(l++m,true)
 |[],l,_=>by simp
 |q :: m,l,h=>by
  rw[List.foldl_cons,←Hm.putStep_tn (Hm.ord_neg (h q (by simp))),Hm.put_rest m _ (fun r hr=>h r (by simp[hr]))]
  simp
theorem Hm.put_fold {n:Nat}{p:Pr}:∀ (m:List Pr) (l:List Pr),Hm.Srt n m→(if (m.foldl (Hm.putStep n p) (l,false)).2 then (m.foldl (Hm.putStep n p) (l,false)).1 else (m.foldl (Hm.putStep n p) (l,false)).1++[p])=l++Hm.ins n p m
 |[],l,_=>by simp[Hm.ins]
 |q :: m,l,hs=>by
  obtain⟨hq,hm⟩:=List.pairwise_cons.1 hs
  rw[List.foldl_cons]
  rcases Int.lt_trichotomy (Hm.cmp n q p) 0 with h|h|h
  ·rw[← Hm.putStep_fp (Hm.ord_pos h),Hm.put_fold m _ hm]
   unfold Hm.ins
   simp[h,show ¬0<Hm.cmp n q p by omega]
  ·have hk:=Hm.cmp_key h
   have hr:∀ r∈m,Hm.cmp n p r<0:=fun r hr=>by
    have:=hq r hr
    unfold Hm.cmp at this ⊢
    rw[← hk];exact this
   have hneg:=Hm.cmp_neg n q p
   rw[← Hm.putStep_fz ((Hm.ord_cmp n p q).2.2 (by omega)),Hm.put_rest m _ hr]
   have f1:m.filter (fun r=>decide (Hm.cmp n r p<0))=[]:=List.filter_eq_nil_iff.2 fun r h'=>by have:=hr r h';have:=Hm.cmp_neg n r p;simp;omega
   have f2:m.filter (fun r=>decide (0<Hm.cmp n r p))=m:=List.filter_eq_self.2 fun r h'=>by have:=hr r h';have:=Hm.cmp_neg n r p;simp;omega
   unfold Hm.ins
   simp[h,f1,f2]
  ·have hneg:=Hm.cmp_neg n q p
   have hr:∀ r∈m,Hm.cmp n p r<0:=fun r hr=>Hm.cmp_trans (show Hm.cmp n p q<0 by omega) (hq r hr)
   rw[← Hm.putStep_fn (Hm.ord_neg (show Hm.cmp n p q<0 by omega)),Hm.put_rest m _ hr]
   have f1:m.filter (fun r=>decide (Hm.cmp n r p<0))=[]:=List.filter_eq_nil_iff.2 fun r h'=>by have:=hr r h';have:=Hm.cmp_neg n r p;simp;omega
   have f2:m.filter (fun r=>decide (0<Hm.cmp n r p))=m:=List.filter_eq_self.2 fun r h'=>by have:=hr r h';have:=Hm.cmp_neg n r p;simp;omega
   unfold Hm.ins
   simp[h,f1,f2,show ¬Hm.cmp n q p<0 by omega]
theorem Zx {ops:Array Oper}{rest:List Oper}{o:Oper}{a:Act}{w w0:World}{Q:Exit→Act→World→Prop}(s x:Operand){B n k c:Nat}{A:Option Addr}{m:List Pr}(h2:n≤32)(hown:Itr B n w0 w A k c m)(hB:B≤w.heap.size)(y:List Value)(p:Pr)(hy:ZN w n y p)(hk:k<1048576)
 (hgd:o.guard=none) (ho:o.op= .call {callee:= .builtin .append,args:= #[s,x],argTypes:= #[120,120]}) (hs:a.eval s= .slice A k c) (hx:a.eval x= .slice (some ⟨w.heap.size,0,none⟩) 1 1)
 (h:∀ A' c' w',Itr B n w0 w' A' (k+1) c' (m++[p])→(∀ b t cs,Blk (w.alloc (.cells y.toArray 225)) b t cs→(Value.slice A k c).ownBlock≠some b→Blk w' b t cs)→QQ Xr (w.alloc (.cells y.toArray 225)) w'→wpList Tryz.prog ops Q rest (a.put o.dst (.slice A' (k+1) c')) w'):wpList Tryz.prog ops Q (o :: rest) a (w.alloc (.cells y.toArray 225)):=by
 obtain⟨⟨L,h1,h3⟩,h4,h5⟩:=hown
 have hy34:=hy.len h2
 have hb:=Qb w (.cells y.toArray 225)
 refine Q1 s x 120 Tryz.underlying120 Ve rfl (by decide) (Qg h1 hb) 1 1 (news:=y) (by omega) (Rd.of _ (Blk.new w _ y).whole) hy.oc (by unfold maxLen;omega) (by omega) (Nat.le_trans hB hb.size) hgd ho hs hx ?_
 intro v' w' g1 g2 _ _
 obtain⟨A',c',rfl,_,_⟩:=QC g1
 have hpure:=(But.append (Qg h1 hb) g2).pure (by decide)
 refine h A' c' w' ⟨⟨L++[y],by rw[List.flatten_append];simpa using g1,?_⟩,by simp[h4],QB (Qg h1 hb) (h5.trans (hb.mono hB)) (Nat.le_trans hB hb.size) g2⟩ (fun b t cs hbk hne=>(Qn g2).blk hbk hne) hpure
 exact ((h3.grown hb).append (Xs.one (hy.grown hb))).stay hpure
theorem Itr.far {B n:Nat}{w0 w:World}{A:Option Addr}{k c:Nat}{m:List Pr}(h:Itr B n w0 w A k c m):(Value.slice A k c).ownBlock≠some w.heap.size:=by
 obtain⟨⟨L,h1,h3⟩,h4,h5⟩:=h
 intro e
 have:=(h1.lt _ e).2
 omega
theorem Qec (n:Nat)(h2:n≤32)(A:Option Addr)(k c:Nat)(m:List Pr)(B1:Option Addr)(n1 d1:Nat)(key:List UInt8)(B2:Option Addr)(n2 d2:Nat)(val:List UInt8)(w:World)(hm:Zw w n A k c m)(hs:Hm.Srt n m)(hn1:key.length=n1)(hn2:val.length=n2)(hr1:Rd w B1 (key.map b8))(hr2:Rd w B2 (val.map b8))(hk:k<524288)(hl1:n1<1048576)(hl2:n2<1048576)(hsz:∀ p∈m,p.key.length<1048576):
 Calls Tryz.prog 103 #[.int .i64 n,.slice A k c,.slice B1 n1 d1,.slice B2 n2 d2] w fun e w'=>∃ A' k' c',e= .returned (.slice A' k' c')∧Below w.heap.size w w'∧Zw w' n A' k' c' (Hm.ins n ⟨key,val⟩ m):=by
 obtain⟨hmk,hkc,L,hA,hL⟩:=hm
 have hitem:=Qea n h2 B1 n1 d1 key B2 n2 d2 val w hn1 hn2 hr1 hr2 hl1 hl2
 obtain⟨p,hpe⟩:∃ p:Pr,p=⟨key,val⟩:=⟨_,rfl⟩
 have hpk:p.key.length<1048576:=by rw[hpe];show key.length<_;omega
 have hfold:=Hm.put_fold (n:=n) (p:=p) m [] hs
 rw[← hpe] at hitem ⊢
 have HA:=hid (Qa hA (Qa hL (Qa hitem (Qa hfold (Qa hsz hmk)))))
 clear hA hL hitem hfold hsz hn1 hn2 hr1 hr2 hpe hs
 go_enter Tryz.func103,Tryz.ntmps103
 go_upto_region 2 with (first
  |(go_at_call 155
    refine HA.out.2.2.1.mono ?_
    rintro e w1 ⟨xc,rfl,hb1,hx1⟩
    have hx34:=hx1.len h2
    have hxo:=hx1.oc
    have H1:=hid (Qa hb1 hx1)
    clear hb1 hx1)
  |((with_reducible refine Qw 225 (.tmp 9) (.tmp 18) _ _ xc 34 hx34 ?_ (by kernel_rfl) hxo ?_ ?_ ?_ ?_ ?_);rfl;rfl;rfl;rfl;rfl))
 have hbk:=Blk.new w1 225 xc
 have hbx:=Qb w1 (.cells xc.toArray 225)
 have hlt1:w1.heap.size< (w1.alloc (.cells xc.toArray 225)).heap.size:=hbk.lt
 obtain⟨bx,hbxe⟩:∃ bx,bx=w1.heap.size:=⟨_,rfl⟩
 rw[← hbxe] at hbk hlt1
 rw[← hbxe]
 refine Qe (fun w'=>Blk w' bx 225 xc∧ZN w' n xc p∧bx<w'.heap.size∧Below w.heap.size w w') ⟨hbk,H1.out.2.grown hbx,hlt1,gro H1.out.1 hbx⟩ ?_
 clear hbk hbx hlt1 hbxe
 rintro w2 hw2
 have HW:=hid hw2
 clear hw2 H1
 go_wp2_with fail
 go_loopg [10,11,21] k (fun g s10 s11 i wr=>∃ (j:Nat) (A':Option Addr) (c' k':Nat) (l:List Pr) (done:Bool),j+g=k∧k'≤j+j∧i= .int .i64 j∧s10= .slice A' k' c'∧s11= .bool done∧(l,done)=(m.take j).foldl (Hm.putStep n p) ([],false)∧Itr w2.heap.size n w2 wr A' k' c' l)
 case atStart=>exact⟨0,none,0,0,[],false,by omega,Nat.le_refl _,rfl,rfl,rfl,rfl,Itr.start n w2⟩
 case round=>
  obtain⟨j,A',c',k',l,done,hj,hkj,rfl,rfl,rfl,hfo,hi⟩:=hrel
  have HR:=hid hi
  clear hi
  by_cases hlt:j<k
  ·
   have hjm:j<m.length:=by omega
   have hdt:m.take (j+1)=m.take j++[m[j]]:=List.take_succ_eq_append_getElem hjm
   have hqk:=HA.out.2.2.2.2.1 m[j] (List.getElem_mem hjm)
   obtain⟨g,o,y,rfl,hp,hy34,hyo,hy⟩:=Ju h2 HA.out.1 HA.out.2.1 j hjm
   obtain⟨q,hqe⟩:∃ q,q=m[j]:=⟨_,rfl⟩
   rw[← hqe] at hy hdt hqk
   have hlb:=Qo hp (by omega)
   have hW2:Below w2.heap.size w2 (wr.alloc (.cells y.toArray 225)):=gro HR.out.bl (Qb wr _)
   have hW1:Below w.heap.size w (wr.alloc (.cells y.toArray 225)):=gro HW.out.2.2.2 hW2
   have hp2:=Qh hp (gro HW.out.2.2.2 HR.out.bl) hlb
   have px1:=((HW.out.1.below HR.out.bl HW.out.2.2.1).grown (Qb wr (.cells y.toArray 225))).whole
   have hby:=Blk.new wr 225 y
   have py1:=hby.whole
   have hslx:∀ z∈[xc],z.length=34:=fun z hz=>by rw[List.mem_singleton] at hz;subst hz;exact hx34
   have hsly:∀ z∈[y],z.length=34:=fun z hz=>by rw[List.mem_singleton] at hz;subst hz;exact hy34
   obtain⟨z,hz⟩:∃ z,z=Hm.ord n p q:=⟨_,rfl⟩
   have HX:=hid (Qa hy (Qa HW.out.2.1 (Qa hz (Qa (Qb wr (.cells y.toArray 225)) hby))))
   have HX2:=hid HR.out.far
   have HX3:=hid (Qa hdt hfo)
   have HY:=hid (Qa hW1 hW2)
   clear hy hdt hfo hz hW1 hW2 hby hp hlb hqe
   have hdone:done=true∨done=false:=by cases done<;>simp
   rcases hdone with rfl|rfl
   ·rcases Int.lt_trichotomy z 0 with hzz|hzz|hzz
    ·have hz1:z≤0:=by omega
     have hz2:¬z=0:=by omega
     go_wp2_with (first
      |((with_reducible refine Qf 225 (.tmp 23) g (o+j*34) y 34 _ hy34 hp2 Tryz.underlying225 rfl (by kernel_rfl) ?_ ?_ ?_ ?_);rfl;rfl;rfl)
      |((with_reducible refine Qw 225 (.tmp 13) (.tmp 24) _ _ y 34 hy34 ?_ (by kernel_rfl) hyo ?_ ?_ ?_ ?_ ?_);rfl;rfl;rfl;rfl;rfl)
      |((with_reducible refine Qf 225 (.tmp 9) bx 0 xc 34 _ hx34 px1 Tryz.underlying225 rfl (by kernel_rfl) ?_ ?_ ?_ ?_);rfl;rfl;rfl)
      |((with_reducible refine Qf 225 (.tmp 13) wr.heap.size 0 y 34 _ hy34 py1 Tryz.underlying225 rfl (by kernel_rfl) ?_ ?_ ?_ ?_);rfl;rfl;rfl)
      |(go_at_call 156
        refine (Zp n h2 xc y p q _ (HX.out.2.1.grown HY.out.2) (HX.out.1.grown HY.out.1) hpk hqk).mono ?_
        rintro e w5 ⟨rfl,hb5⟩
        rw[← HX.out.2.2.1]
        have px5:=Qm px1 hb5
        have py5:=Qm py1 hb5
        have hbs5:=(gro HY.out.2 hb5).size
        have H5:=hid (Qa (HR.out.grown HR.out.bl.size (gro HX.out.2.2.2.1 hb5)) (Qa (HX.out.2.1.grown (gro HY.out.2 hb5)) (Qa (HX.out.1.grown (gro HY.out.1 hb5)) (HX.out.2.2.2.2.grown hb5))))
        clear hb5)
      |((with_reducible refine Qf 225 (.tmp 13) wr.heap.size 0 y 34 _ hy34 py5 Tryz.underlying225 rfl (by kernel_rfl) ?_ ?_ ?_ ?_);rfl;rfl;rfl)
      |((with_reducible refine QY 120 225 1 #[(0,.tmp 41)] [y] 34 (by decide) hsly rfl (by decide) (by decide) Tryz.underlying120 (by kernel_rfl) ?_ ?_ ?_ ?_);rfl;rfl;rfl;rw[List.flatten_singleton])
      |((with_reducible refine Zx (.tmp 40) (.tmp 42) h2 H5.out.1 hbs5 y q H5.out.2.2.1 (by omega) ?_ ?_ ?_ ?_ ?_);rfl;rfl;rfl;rfl
        intro A9 c9 w9 hn1 _ _
        have H9:=hid hn1
        clear hn1))
     go_roundg (gk-1)
     case measure=>omega
     case rel=>
      refine⟨j+1,A9,c9,k'+1,_,true,by omega,by omega,by go_num,rfl,rfl,?_,H9.out⟩
      rw[HX3.out.1,List.foldl_append,List.foldl_cons,List.foldl_nil,←HX3.out.2]
      exact Hm.putStep_tn (by rw[← HX.out.2.2.1];omega)
    ·subst hzz
     go_wp2_with (first
      |((with_reducible refine Qf 225 (.tmp 23) g (o+j*34) y 34 _ hy34 hp2 Tryz.underlying225 rfl (by kernel_rfl) ?_ ?_ ?_ ?_);rfl;rfl;rfl)
      |((with_reducible refine Qw 225 (.tmp 13) (.tmp 24) _ _ y 34 hy34 ?_ (by kernel_rfl) hyo ?_ ?_ ?_ ?_ ?_);rfl;rfl;rfl;rfl;rfl)
      |((with_reducible refine Qf 225 (.tmp 9) bx 0 xc 34 _ hx34 px1 Tryz.underlying225 rfl (by kernel_rfl) ?_ ?_ ?_ ?_);rfl;rfl;rfl)
      |((with_reducible refine Qf 225 (.tmp 13) wr.heap.size 0 y 34 _ hy34 py1 Tryz.underlying225 rfl (by kernel_rfl) ?_ ?_ ?_ ?_);rfl;rfl;rfl)
      |(go_at_call 156
        refine (Zp n h2 xc y p q _ (HX.out.2.1.grown HY.out.2) (HX.out.1.grown HY.out.1) hpk hqk).mono ?_
        rintro e w5 ⟨rfl,hb5⟩
        rw[← HX.out.2.2.1]
        have px5:=Qm px1 hb5
        have py5:=Qm py1 hb5
        have hbs5:=(gro HY.out.2 hb5).size
        have H5:=hid (Qa (HR.out.grown HR.out.bl.size (gro HX.out.2.2.2.1 hb5)) (Qa (HX.out.2.1.grown (gro HY.out.2 hb5)) (Qa (HX.out.1.grown (gro HY.out.1 hb5)) (HX.out.2.2.2.2.grown hb5))))
        clear hb5))
     go_roundg (gk-1)
     case measure=>omega
     case rel=>
      refine⟨j+1,A',c',k',_,true,by omega,by omega,by go_num,rfl,rfl,?_,H5.out.1⟩
      rw[HX3.out.1,List.foldl_append,List.foldl_cons,List.foldl_nil,←HX3.out.2]
      exact Hm.putStep_tz (by rw[← HX.out.2.2.1])
    ·have hz1:¬z≤0:=by omega
     have hz2:¬z=0:=by omega
     go_wp2_with (first
      |((with_reducible refine Qf 225 (.tmp 23) g (o+j*34) y 34 _ hy34 hp2 Tryz.underlying225 rfl (by kernel_rfl) ?_ ?_ ?_ ?_);rfl;rfl;rfl)
      |((with_reducible refine Qw 225 (.tmp 13) (.tmp 24) _ _ y 34 hy34 ?_ (by kernel_rfl) hyo ?_ ?_ ?_ ?_ ?_);rfl;rfl;rfl;rfl;rfl)
      |((with_reducible refine Qf 225 (.tmp 9) bx 0 xc 34 _ hx34 px1 Tryz.underlying225 rfl (by kernel_rfl) ?_ ?_ ?_ ?_);rfl;rfl;rfl)
      |((with_reducible refine Qf 225 (.tmp 13) wr.heap.size 0 y 34 _ hy34 py1 Tryz.underlying225 rfl (by kernel_rfl) ?_ ?_ ?_ ?_);rfl;rfl;rfl)
      |(go_at_call 156
        refine (Zp n h2 xc y p q _ (HX.out.2.1.grown HY.out.2) (HX.out.1.grown HY.out.1) hpk hqk).mono ?_
        rintro e w5 ⟨rfl,hb5⟩
        rw[← HX.out.2.2.1]
        have px5:=Qm px1 hb5
        have py5:=Qm py1 hb5
        have hbs5:=(gro HY.out.2 hb5).size
        have H5:=hid (Qa (HR.out.grown HR.out.bl.size (gro HX.out.2.2.2.1 hb5)) (Qa (HX.out.2.1.grown (gro HY.out.2 hb5)) (Qa (HX.out.1.grown (gro HY.out.1 hb5)) (HX.out.2.2.2.2.grown hb5))))
        clear hb5)
      |((with_reducible refine Qf 225 (.tmp 13) wr.heap.size 0 y 34 _ hy34 py5 Tryz.underlying225 rfl (by kernel_rfl) ?_ ?_ ?_ ?_);rfl;rfl;rfl)
      |((with_reducible refine QY 120 225 1 #[(0,.tmp 41)] [y] 34 (by decide) hsly rfl (by decide) (by decide) Tryz.underlying120 (by kernel_rfl) ?_ ?_ ?_ ?_);rfl;rfl;rfl;rw[List.flatten_singleton])
      |((with_reducible refine Zx (.tmp 40) (.tmp 42) h2 H5.out.1 hbs5 y q H5.out.2.2.1 (by omega) ?_ ?_ ?_ ?_ ?_);rfl;rfl;rfl;rfl
        intro A9 c9 w9 hn1 _ _
        have H9:=hid hn1
        clear hn1))
     go_roundg (gk-1)
     case measure=>omega
     case rel=>
      refine⟨j+1,A9,c9,k'+1,_,true,by omega,by omega,by go_num,rfl,rfl,?_,H9.out⟩
      rw[HX3.out.1,List.foldl_append,List.foldl_cons,List.foldl_nil,←HX3.out.2]
      exact Hm.putStep_tp (by rw[← HX.out.2.2.1];omega)
   ·rcases Int.lt_trichotomy z 0 with hzz|hzz|hzz
    ·have hz1:z≤0:=by omega
     have hz2:¬z=0:=by omega
     go_wp2_with (first
      |((with_reducible refine Qf 225 (.tmp 23) g (o+j*34) y 34 _ hy34 hp2 Tryz.underlying225 rfl (by kernel_rfl) ?_ ?_ ?_ ?_);rfl;rfl;rfl)
      |((with_reducible refine Qw 225 (.tmp 13) (.tmp 24) _ _ y 34 hy34 ?_ (by kernel_rfl) hyo ?_ ?_ ?_ ?_ ?_);rfl;rfl;rfl;rfl;rfl)
      |((with_reducible refine Qf 225 (.tmp 9) bx 0 xc 34 _ hx34 px1 Tryz.underlying225 rfl (by kernel_rfl) ?_ ?_ ?_ ?_);rfl;rfl;rfl)
      |((with_reducible refine Qf 225 (.tmp 13) wr.heap.size 0 y 34 _ hy34 py1 Tryz.underlying225 rfl (by kernel_rfl) ?_ ?_ ?_ ?_);rfl;rfl;rfl)
      |(go_at_call 156
        refine (Zp n h2 xc y p q _ (HX.out.2.1.grown HY.out.2) (HX.out.1.grown HY.out.1) hpk hqk).mono ?_
        rintro e w5 ⟨rfl,hb5⟩
        rw[← HX.out.2.2.1]
        have px5:=Qm px1 hb5
        have py5:=Qm py1 hb5
        have hbs5:=(gro HY.out.2 hb5).size
        have H5:=hid (Qa (HR.out.grown HR.out.bl.size (gro HX.out.2.2.2.1 hb5)) (Qa (HX.out.2.1.grown (gro HY.out.2 hb5)) (Qa (HX.out.1.grown (gro HY.out.1 hb5)) (HX.out.2.2.2.2.grown hb5))))
        clear hb5)
      |((with_reducible refine Qf 225 (.tmp 9) bx 0 xc 34 _ hx34 px5 Tryz.underlying225 rfl (by kernel_rfl) ?_ ?_ ?_ ?_);rfl;rfl;rfl)
      |((with_reducible refine QY 120 225 1 #[(0,.tmp 35)] [xc] 34 (by decide) hslx rfl (by decide) (by decide) Tryz.underlying120 (by kernel_rfl) ?_ ?_ ?_ ?_);rfl;rfl;rfl;rw[List.flatten_singleton])
      |((with_reducible refine Zx (.tmp 34) (.tmp 36) h2 H5.out.1 hbs5 xc p H5.out.2.1 (by omega) ?_ ?_ ?_ ?_ ?_);rfl;rfl;rfl;rfl
        intro A8 c8 w8 hn1 hn2 hn3
        have hy8:=hn2 _ _ _ (H5.out.2.2.2.alloc _) HX2.out
        have py8:=hy8.whole
        have hbs8:=hn1.bl.size
        have H8:=hid (Qa hn1 (Qa hy8 ((H5.out.2.2.1.grown (Qb w5 (.cells xc.toArray 225))).stay hn3)))
        clear hn1 hn2 hn3 hy8)
      |((with_reducible refine Qf 225 (.tmp 13) wr.heap.size 0 y 34 _ hy34 py8 Tryz.underlying225 rfl (by kernel_rfl) ?_ ?_ ?_ ?_);rfl;rfl;rfl)
      |((with_reducible refine QY 120 225 1 #[(0,.tmp 41)] [y] 34 (by decide) hsly rfl (by decide) (by decide) Tryz.underlying120 (by kernel_rfl) ?_ ?_ ?_ ?_);rfl;rfl;rfl;rw[List.flatten_singleton])
      |((with_reducible refine Zx (.tmp 40) (.tmp 42) h2 H8.out.1 hbs8 y q H8.out.2.2 (by omega) ?_ ?_ ?_ ?_ ?_);rfl;rfl;rfl;rfl
        intro A9 c9 w9 hn1 _ _
        have H9:=hid hn1
        clear hn1))
     go_roundg (gk-1)
     case measure=>omega
     case rel=>
      refine⟨j+1,A9,c9,k'+1+1,_,true,by omega,by omega,by go_num,rfl,rfl,?_,H9.out⟩
      rw[HX3.out.1,List.foldl_append,List.foldl_cons,List.foldl_nil,←HX3.out.2]
      exact Hm.putStep_fn (by rw[← HX.out.2.2.1];omega)
    ·subst hzz
     go_wp2_with (first
      |((with_reducible refine Qf 225 (.tmp 23) g (o+j*34) y 34 _ hy34 hp2 Tryz.underlying225 rfl (by kernel_rfl) ?_ ?_ ?_ ?_);rfl;rfl;rfl)
      |((with_reducible refine Qw 225 (.tmp 13) (.tmp 24) _ _ y 34 hy34 ?_ (by kernel_rfl) hyo ?_ ?_ ?_ ?_ ?_);rfl;rfl;rfl;rfl;rfl)
      |((with_reducible refine Qf 225 (.tmp 9) bx 0 xc 34 _ hx34 px1 Tryz.underlying225 rfl (by kernel_rfl) ?_ ?_ ?_ ?_);rfl;rfl;rfl)
      |((with_reducible refine Qf 225 (.tmp 13) wr.heap.size 0 y 34 _ hy34 py1 Tryz.underlying225 rfl (by kernel_rfl) ?_ ?_ ?_ ?_);rfl;rfl;rfl)
      |(go_at_call 156
        refine (Zp n h2 xc y p q _ (HX.out.2.1.grown HY.out.2) (HX.out.1.grown HY.out.1) hpk hqk).mono ?_
        rintro e w5 ⟨rfl,hb5⟩
        rw[← HX.out.2.2.1]
        have px5:=Qm px1 hb5
        have py5:=Qm py1 hb5
        have hbs5:=(gro HY.out.2 hb5).size
        have H5:=hid (Qa (HR.out.grown HR.out.bl.size (gro HX.out.2.2.2.1 hb5)) (Qa (HX.out.2.1.grown (gro HY.out.2 hb5)) (Qa (HX.out.1.grown (gro HY.out.1 hb5)) (HX.out.2.2.2.2.grown hb5))))
        clear hb5)
      |((with_reducible refine Qf 225 (.tmp 9) bx 0 xc 34 _ hx34 px5 Tryz.underlying225 rfl (by kernel_rfl) ?_ ?_ ?_ ?_);rfl;rfl;rfl)
      |((with_reducible refine QY 120 225 1 #[(0,.tmp 35)] [xc] 34 (by decide) hslx rfl (by decide) (by decide) Tryz.underlying120 (by kernel_rfl) ?_ ?_ ?_ ?_);rfl;rfl;rfl;rw[List.flatten_singleton])
      |((with_reducible refine Zx (.tmp 34) (.tmp 36) h2 H5.out.1 hbs5 xc p H5.out.2.1 (by omega) ?_ ?_ ?_ ?_ ?_);rfl;rfl;rfl;rfl
        intro A8 c8 w8 hn1 hn2 hn3
        have hy8:=hn2 _ _ _ (H5.out.2.2.2.alloc _) HX2.out
        have py8:=hy8.whole
        have hbs8:=hn1.bl.size
        have H8:=hid (Qa hn1 (Qa hy8 ((H5.out.2.2.1.grown (Qb w5 (.cells xc.toArray 225))).stay hn3)))
        clear hn1 hn2 hn3 hy8))
     go_roundg (gk-1)
     case measure=>omega
     case rel=>
      refine⟨j+1,A8,c8,k'+1,_,true,by omega,by omega,by go_num,rfl,rfl,?_,H8.out.1⟩
      rw[HX3.out.1,List.foldl_append,List.foldl_cons,List.foldl_nil,←HX3.out.2]
      exact Hm.putStep_fz (by rw[← HX.out.2.2.1])
    ·have hz1:¬z≤0:=by omega
     have hz2:¬z=0:=by omega
     go_wp2_with (first
      |((with_reducible refine Qf 225 (.tmp 23) g (o+j*34) y 34 _ hy34 hp2 Tryz.underlying225 rfl (by kernel_rfl) ?_ ?_ ?_ ?_);rfl;rfl;rfl)
      |((with_reducible refine Qw 225 (.tmp 13) (.tmp 24) _ _ y 34 hy34 ?_ (by kernel_rfl) hyo ?_ ?_ ?_ ?_ ?_);rfl;rfl;rfl;rfl;rfl)
      |((with_reducible refine Qf 225 (.tmp 9) bx 0 xc 34 _ hx34 px1 Tryz.underlying225 rfl (by kernel_rfl) ?_ ?_ ?_ ?_);rfl;rfl;rfl)
      |((with_reducible refine Qf 225 (.tmp 13) wr.heap.size 0 y 34 _ hy34 py1 Tryz.underlying225 rfl (by kernel_rfl) ?_ ?_ ?_ ?_);rfl;rfl;rfl)
      |(go_at_call 156
        refine (Zp n h2 xc y p q _ (HX.out.2.1.grown HY.out.2) (HX.out.1.grown HY.out.1) hpk hqk).mono ?_
        rintro e w5 ⟨rfl,hb5⟩
        rw[← HX.out.2.2.1]
        have px5:=Qm px1 hb5
        have py5:=Qm py1 hb5
        have hbs5:=(gro HY.out.2 hb5).size
        have H5:=hid (Qa (HR.out.grown HR.out.bl.size (gro HX.out.2.2.2.1 hb5)) (Qa (HX.out.2.1.grown (gro HY.out.2 hb5)) (Qa (HX.out.1.grown (gro HY.out.1 hb5)) (HX.out.2.2.2.2.grown hb5))))
        clear hb5)
      |((with_reducible refine Qf 225 (.tmp 13) wr.heap.size 0 y 34 _ hy34 py5 Tryz.underlying225 rfl (by kernel_rfl) ?_ ?_ ?_ ?_);rfl;rfl;rfl)
      |((with_reducible refine QY 120 225 1 #[(0,.tmp 41)] [y] 34 (by decide) hsly rfl (by decide) (by decide) Tryz.underlying120 (by kernel_rfl) ?_ ?_ ?_ ?_);rfl;rfl;rfl;rw[List.flatten_singleton])
      |((with_reducible refine Zx (.tmp 40) (.tmp 42) h2 H5.out.1 hbs5 y q H5.out.2.2.1 (by omega) ?_ ?_ ?_ ?_ ?_);rfl;rfl;rfl;rfl
        intro A9 c9 w9 hn1 _ _
        have H9:=hid hn1
        clear hn1))
     go_roundg (gk-1)
     case measure=>omega
     case rel=>
      refine⟨j+1,A9,c9,k'+1,_,false,by omega,by omega,by go_num,rfl,rfl,?_,H9.out⟩
      rw[HX3.out.1,List.foldl_append,List.foldl_cons,List.foldl_nil,←HX3.out.2]
      exact Hm.putStep_fp (by rw[← HX.out.2.2.1];omega)
  ·obtain rfl:j=k:=by omega
   rw[List.take_of_length_le (by have:=HA.out.2.2.2.2.2;omega)] at hfo
   have hfin:=HA.out.2.2.2.1
   rw[← hfo] at hfin
   have px1:=(HW.out.1.below HR.out.bl HW.out.2.2.1).whole
   have hbsr:=HR.out.bl.size
   have hslx:∀ z∈[xc],z.length=34:=fun z hz=>by rw[List.mem_singleton] at hz;subst hz;exact hx34
   have hxr:=HW.out.2.1.grown HR.out.bl
   have HX:=hid hxr
   have HF:=hid hfin
   clear hfo hfin hxr
   have hdone:done=true∨done=false:=by cases done<;>simp
   rcases hdone with rfl|rfl
   ·go_wp2_with fail
    go_ret
    refine⟨A',k',c',rfl,gro HW.out.2.2.2 HR.out.bl,?_⟩
    have h:=HF.out
    simp only[if_true,List.nil_append] at h
    rw[← h];exact HR.out.sl
   ·go_wp2_with (first
     |((with_reducible refine Qf 225 (.tmp 9) bx 0 xc 34 _ hx34 px1 Tryz.underlying225 rfl (by kernel_rfl) ?_ ?_ ?_ ?_);rfl;rfl;rfl)
     |((with_reducible refine QY 120 225 1 #[(0,.tmp 48)] [xc] 34 (by decide) hslx rfl (by decide) (by decide) Tryz.underlying120 (by kernel_rfl) ?_ ?_ ?_ ?_);rfl;rfl;rfl;rw[List.flatten_singleton])
     |((with_reducible refine Zx (.tmp 47) (.tmp 49) h2 HR.out hbsr xc p HX.out (by omega) ?_ ?_ ?_ ?_ ?_);rfl;rfl;rfl;rfl
       intro A8 c8 w8 hn1 _ _
       have H8:=hid hn1
       clear hn1))
    go_ret
    refine⟨A8,k'+1,c8,rfl,gro HW.out.2.2.2 H8.out.bl,?_⟩
    have h:=HF.out
    simp only[Bool.false_eq_true,if_false,List.nil_append] at h
    rw[← h];exact H8.out.sl
theorem Hm.bmf_pow (P:Nat→Bool):∀ k,Hm.bmf P k<2^k
 |0=>by simp[Hm.bmf]
 |k+1=>by
  have h:=Hm.bmf_pow P k
  rw[Hm.bmf_succ]
  split
  ·unfold Nib.add
   exact Nat.or_lt_two_pow (Nat.lt_of_lt_of_le h (Nat.pow_le_pow_right (by decide) (by omega))) (Nat.pow_lt_pow_right (by decide) (by omega))
  ·exact Nat.lt_of_lt_of_le h (Nat.pow_le_pow_right (by decide) (by omega))
theorem Hm.bmf_plus (P:Nat→Bool)(k:Nat)(h:P k=true):Hm.bmf P (k+1)=Hm.bmf P k+2^k:=by
 have h1:=Hm.bmf_pow P k
 have h2:=Nat.two_pow_add_eq_or_of_lt h1 1
 rw[Hm.bmf_succ,if_pos h]
 unfold Nib.add
 rw[Nat.mul_one] at h2
 rw[Nat.or_comm,←h2,Nat.add_comm]
def XX (n f t:Nat)(m:List Pr)(i:Nat):List (List UInt8):=((List.range i).filter (Hm.has n t m)).map fun j=>Hm.node n f (t+1) (Hm.child n t j m)
theorem KC {n f t:Nat}{m:List Pr}{i:Nat}(h:Hm.has n t m i=true):XX n f t m (i+1)=XX n f t m i++[Hm.node n f (t+1) (Hm.child n t i m)]:=by
 unfold XX;rw[List.range_succ,List.filter_append];simp[h]
theorem UI {n f t:Nat}{m:List Pr}{i:Nat}(h:Hm.has n t m i=false):XX n f t m (i+1)=XX n f t m i:=by
 unfold XX;rw[List.range_succ,List.filter_append];simp[h]
theorem UJ (n f t:Nat)(m:List Pr)(i:Nat):(XX n f t m i).length≤i:=by
 unfold XX;rw[List.length_map];exact Nat.le_trans (List.length_filter_le _ _) (by simp)
theorem Hm.node_len (n:Nat)(h2:n≤32)(f t:Nat)(m:List Pr):(Hm.node n f t m).length=32:=by
 cases f with
 |zero=>exact Dg.sum_length n _ h2
 |succ f=>unfold Hm.node;split<;>exact Dg.sum_length n _ h2
def Hm.Pre (n t:Nat)(m:List Pr):Prop:=∀ p∈m,∀ q∈m,∀ i,i<t→Hm.dig n i p=Hm.dig n i q
theorem Hm.Pre.child {n t:Nat}{m:List Pr}(h:Hm.Pre n t m)(i:Nat):Hm.Pre n (t+1) (Hm.child n t i m):=by
 intro p hp q hq j hj
 obtain⟨h1,h2⟩:=Hm.mem_child.1 hp
 obtain⟨h3,h4⟩:=Hm.mem_child.1 hq
 by_cases e:j=t
 ·subst e;rw[h2,h4]
 ·exact h p h1 q h3 j (by omega)
theorem Hm.Pre.single {n t:Nat}(h2:n≤32){m:List Pr}(h:Hm.Pre n t m)(ht:t=2*n):Hm.single n m=true:=by
 rw[Hm.single_iff]
 intro p hp q hq
 exact KO h2 (XW n h2 _) (XW n h2 _) (Dg.form_sum n _ h2) (Dg.form_sum n _ h2) (fun i hi=>h p hp q hq i (by omega))
def WW (n f:Nat):Prop:=∀ (t:Nat) (A:Option Addr) (k c:Nat) (m:List Pr) (w:World),f+t=2*n→Zw w n A k c m→Hm.Srt n m→Hm.Pre n t m→k<524288→QS m<274877906944→(∀ p∈m,p.key.length<1048576∧p.val.length<1048576)→
    Calls Tryz.prog 102 #[.int .i64 n,.slice A k c,.int .i64 t] w fun e w'=>e= .returned (dg (Hm.node n f t m))∧Below w.heap.size w w'
theorem J4 (n t i:Nat):∀ (m:List Pr),QS (Hm.child n t i m)≤QS m
 |[]=>Nat.le_refl _
 |p :: m=>by
  have:=J4 n t i m
  unfold QS Hm.child at this ⊢
  rw[List.filter_cons]
  split
  ·simp only[List.flatMap_cons,List.length_append];omega
  ·simp only[List.flatMap_cons,List.length_append];omega
structure Stp (n f t:Nat) (m:List Pr) (w:World) (ib i:Nat) (A:Option Addr) (k c:Nat) (wr:World):Prop where
 sb:Blk wr (w.heap.size+1) 151 [.int .u16 (Hm.bmf (Hm.has n t m) ib),.slice A k c]
 ow:wr.ownsRow (w.heap.size+1+1) 40 32 (.slice A k c) k (dgs (XX n f t m i)).flatten
 kl:(XX n f t m i).length=k
 rt:Blk wr w.heap.size 151 [.int .u16 0,.slice none 0 0]
 bl:Below w.heap.size w wr
 sz:w.heap.size+1+1≤wr.heap.size
theorem Stp.grown {n f t:Nat}{m:List Pr}{w:World}{ib i:Nat}{A:Option Addr}{k c:Nat}{wr w':World}(h:Stp n f t m w ib i A k c wr)(hb:Below wr.heap.size wr w'):Stp n f t m w ib i A k c w':=
 ⟨h.sb.grown hb,Qg h.ow hb,h.kl,h.rt.grown hb,gro h.bl hb,Nat.le_trans h.sz hb.size⟩
theorem Stp.no {n f t:Nat}{m:List Pr}{w:World}{i:Nat}{A:Option Addr}{k c:Nat}{wr:World}(h:Stp n f t m w i i A k c wr)(hn:Hm.has n t m i=false):Stp n f t m w (i+1) (i+1) A k c wr:=
 ⟨by rw[Hm.bmf_succ,hn];exact h.sb,by rw[UI hn];exact h.ow,by rw[UI hn];exact h.kl,h.rt,h.bl,h.sz⟩
theorem Stp.start (n f t:Nat)(m:List Pr)(w:World):Stp n f t m w 0 0 none 0 0 ((w.alloc (.cells #[.int .u16 0,.slice none 0 0] 151)).alloc (.cells #[.int .u16 0,.slice none 0 0] 151)):=by
 have b1:=(Blk.new w 151 [.int .u16 0,.slice none 0 0]).alloc (.cells #[.int .u16 0,.slice none 0 0] 151)
 have b2:=Blk.new (w.alloc (.cells #[.int .u16 0,.slice none 0 0] 151)) 151 [.int .u16 0,.slice none 0 0]
 rw[show (w.alloc (.cells #[.int .u16 0,.slice none 0 0] 151)).heap.size=w.heap.size+1 from by simp] at b2
 exact⟨b2,World.ownsRow_nil _ _ _ _,rfl,b1,gro (Qb w _) (Qb _ _),by simp⟩
theorem Stp.bit {n f t:Nat}{m:List Pr}{w:World}{i:Nat}{A:Option Addr}{k c:Nat}{wr:World}(h:Stp n f t m w i i A k c wr){q2:Nat}(hq:q2=Hm.bmf (Hm.has n t m) (i+1)):Stp n f t m w (i+1) i A k c (wr.setCell ⟨w.heap.size+1,0,none⟩ (.int .u16 q2)):=by
 have hne:=Xz h.ow h.sb (by decide)
 refine⟨by rw[← hq];exact h.sb.set_ 0 _,XM (S:=(· =w.heap.size+1)) h.ow ((Qu.refl _ _).set1 0 _) (fun k hk e=>hne (by rw[hk,e])),h.kl,h.rt.far (by show w.heap.size≠w.heap.size+1;omega) _,h.bl.setCell (by show w.heap.size≤w.heap.size+1;omega) _,by rw[show (wr.setCell ⟨w.heap.size+1,0,none⟩ (.int .u16 q2)).heap.size=wr.heap.size from by simp];exact h.sz⟩
theorem Stp.yes {n f t:Nat}{m:List Pr}{w:World}{i:Nat}{A:Option Addr}{k c:Nat}{wd w8 w9:World}(h:Stp n f t m w (i+1) i A k c wd)(hhas:Hm.has n t m i=true)(h8:Below wd.heap.size wd w8){D:List UInt8}(hD:D=Hm.node n f (t+1) (Hm.child n t i m)){A9:Option Addr}{c9:Nat}
 (hn1:w9.ownsRow (w.heap.size+1+1) 40 32 (.slice A9 (k+1) c9) (k+1) ((dgs (XX n f t m i)).flatten++D.map b8)) (hn2:w8.grownBy w9 (Value.slice A k c).ownBlock):
 (w9.cell? ⟨w.heap.size+1,1,none⟩=some (.slice A k c)∧w9.frozen? ⟨w.heap.size+1,1,none⟩=false)∧Stp n f t m w (i+1) (i+1) A9 (k+1) c9 (w9.setCell ⟨w.heap.size+1,1,none⟩ (.slice A9 (k+1) c9)):=by
 have g:=h.grown h8
 have hbut:=But.append g.ow hn2
 have hsb:=QQ.blk hbut g.sb (by decide)
 have hrt:=QQ.blk hbut g.rt (by decide)
 have hne:=Xz hn1 hsb (by decide)
 have hbl:Below w.heap.size w w9:=(Qn hn2).step g.bl g.bl.size (fun k hk e=>by have:=(g.ow.lt k e).1;omega)
 refine⟨⟨by rw[hsb.cell];rfl,hsb.frozen 1⟩,hsb.set_ 1 _,?_,?_,hrt.far (by show w.heap.size≠w.heap.size+1;omega) _,hbl.setCell (by show w.heap.size≤w.heap.size+1;omega) _,?_⟩
 ·have:=XM (S:=(· =w.heap.size+1)) hn1 ((Qu.refl _ _).set1 1 (.slice A9 (k+1) c9)) (fun k hk e=>hne (by rw[hk,e]))
  rw[KC hhas,←hD]
  simpa [dgs] using this
 ·rw[KC hhas,List.length_append,h.kl];rfl
 ·rw[show (w9.setCell ⟨w.heap.size+1,1,none⟩ (.slice A9 (k+1) c9)).heap.size=w9.heap.size from by simp];exact Nat.le_trans g.sz hn2.size
theorem Zw.setStep {n k c:Nat}{A:Option Addr}{m:List Pr}{w:World}(h:Zw w n A k c m){g:Nat}{cs:List Value}(hb:Blk w g 151 cs)(hne:∀ a,A=some a→a.block≠g){i:Nat}{u:Value}:Zw (w.setCell ⟨g,i,none⟩ u) n A k c m:=by
 obtain⟨h1,h2,L,h3,h4⟩:=h
 exact⟨h1,h2,L,h3.kept ((Qu.refl (· =g) w).set1 i u) (fun a e _=>hne a e),h4.stay (JY hb (by decide) i u)⟩
@[go_sem] def Qhy:Op:= .load 105 (.tmp 27)
attribute [-go_sem] Instr.build Instr.buildSlice in
theorem Qch (n:Nat)(h2:n≤32)(f:Nat)(hN:WW n f)(t:Nat)(A:Option Addr)(k c:Nat)(m:List Pr)(w:World)(hft:f+1+t=2*n)(hm:Zw w n A k c m)(hs:Hm.Srt n m)(hpre:Hm.Pre n t m)(hk:k<524288)(hsz0:QS m<274877906944)(hsz:∀ p∈m,p.key.length<1048576∧p.val.length<1048576):
 Calls Tryz.prog 153 #[.int .i64 n,.slice A k c,.int .i64 t] w fun e w'=>∃ A' k' c',e= .returned (.agg #[.int .u16 (Hm.bm n t m),.slice A' k' c'])∧Below w.heap.size w w'∧(XX n f t m 16).length=k'∧Rd w' A' (dgs (XX n f t m 16)).flatten:=by
 have hst:=Stp.start n f t m w
 have HA:=hid (Qa hN (Qa hm (Qa hs (Qa hpre (Qa hsz0 (Qa hsz hst))))))
 have ht64:t+1<65:=by omega
 clear hN hm hs hpre hsz0 hsz hst
 go_enter Tryz.func153,Tryz.ntmps153
 go_wp2_with fail
 go_loopg [8] 16 (fun g i' wr=>∃ (i:Nat) (A':Option Addr) (k' c':Nat),i+g=16∧i'= .int .i64 i∧Stp n f t m w i i A' k' c' wr)
 case atStart=>exact⟨0,none,0,0,by omega,rfl,HA.out.2.2.2.2.2.2⟩
 case round=>
  obtain⟨i,A',k',c',hi,rfl,hst⟩:=hrel
  have HR:=hid hst
  have hk16:k'≤i:=by have:=UJ n f t m i;rw[hst.kl] at this;exact this
  clear hst
  by_cases hlt:i<16
  ·go_upto_region 6 with (
    (go_at_call 195
     refine (WU n h2 A k c m t i _ (HA.out.2.1.grown HR.out.bl) (by omega) (by omega)).mono ?_
     rintro e w5 ⟨A2,k2,c2,rfl,hb5,hs5,hn5⟩
     have H5:=hid (Qa (HR.out.grown hb5) (Qa hs5 hn5))
     clear hb5 hs5 hn5))
   by_cases hk2:0<k2
   ·have hhas:Hm.has n t m i=true:=by
     rw[Hm.has_child]
     have:=H5.out.2.1.1
     cases hc:Hm.child n t i m with
     |nil=>rw[hc] at this;simp at this;omega
     |cons _ _=>rfl
    have hkn:=KC (f:=f) hhas
    have hbp:=Hm.bmf_plus _ _ hhas
    obtain⟨q,hq⟩:∃ q,q=Hm.bmf (Hm.has n t m) i:=⟨_,rfl⟩
    obtain⟨q2,hq2⟩:∃ q2,q2=Hm.bmf (Hm.has n t m) (i+1):=⟨_,rfl⟩
    have hq2l:q2<65536:=by rw[hq2];exact Nat.lt_of_lt_of_le (Hm.bmf_pow _ _) (Nat.pow_le_pow_right (n:=2) (by decide) (show i+1≤16 by omega))
    rw[← hq,←hq2] at hbp
    have hsb:=H5.out.1.sb
    rw[← hq] at hsb
    have hpw:=Qfk i hlt
    have q0:=Fut.cell (show w5.cell? ⟨w.heap.size+1,0,none⟩=some (.int .u16 q) from by rw[hsb.cell];rfl)
    have HX:=hid (Qa hkn (Qa hbp (Qa hq2 (Qa hq hsb))))
    have HH:=hid hhas
    clear hkn hbp hq2 hq hhas hsb
    go_upto_region 7 with fail
    refine Qq 5 (by kernel_rfl) (by kernel_rfl) ?_
    dsimp only[List.take_succ_cons,List.take_zero,List.drop_succ_cons,List.drop_zero]
    repeat go_big_quiet_step (fail)
    refine wpQuiet_nil ?_
    rintro _ ⟨s,rfl⟩
    clear q0
    have hsb6:=HX.out.2.2.2.2.grown s.below
    have k6:s.v.cell? ⟨w.heap.size+1,0,none⟩=some (.int .u16 q):=by rw[hsb6.cell];rfl
    have f6:=hsb6.frozen 0
    have H6:=hid (Qa (H5.out.1.grown s.below) (Qa (H5.out.2.1.grown s.below) H5.out.2.2))
    have hval:IntKind.u16.wrap ((q:Int)+2^i)=(q2:Int):=by
     have:=ZI q2 hq2l
     rw[HX.out.2.1] at this ⊢
     push_cast at this ⊢
     exact this
    have HVAL:=hid hval
    clear hsb6 hval
    go_upto_region 8 with fail
    rw[HVAL.out]
    have hst7:=H6.out.1.bit HX.out.2.2.1
    refine Qe (fun w'=>Stp n f t m w (i+1) i A' k' c' w'∧Zw w' n A2 k2 c2 (Hm.child n t i m)) ⟨hst7,H6.out.2.1.setStep (H6.out.1.sb) (fun a e=>by have h1:=H6.out.2.2 a e;have h3:=HR.out.sz;omega)⟩ ?_
    rintro wd ⟨hst,hit⟩
    clear k6 f6 hst7 H6 HVAL
    have kq:wd.cell? ⟨w.heap.size+1,1,none⟩=some (.slice A' k' c'):=by rw[hst.sb.cell];rfl
    obtain⟨D,hD⟩:∃ D,D=Hm.node n f (t+1) (Hm.child n t i m):=⟨_,rfl⟩
    have hDl:D.length=32:=by rw[hD];exact Hm.node_len n h2 _ _ _
    have hDm:(D.map b8).length=32:=by rw[List.length_map,hDl]
    have hwt:IntKind.i64.wrap ((t:Int)+1)=(t:Int)+1:=by rw[IntKind.wrap_i64];omega
    have hd:Below wd.heap.size wd wd.drew:=(Below.refl _ _).drew
    have hnode:∀ w',Below wd.heap.size wd w'→Calls Tryz.prog 102 #[.int .i64 n,.slice A2 k2 c2,.int .i64 ((t:Int)+1)] w' fun e w''=>e= .returned (dg D)∧Below w'.heap.size w' w'':=fun w' hb=>by
     rw[hD]
     have hlen:k2≤k:=by rw[← hit.1,←HA.out.2.1.1];exact List.length_filter_le _ _
     exact HA.out.1 (t+1) A2 k2 c2 (Hm.child n t i m) w' (by omega) (hit.grown hb) HA.out.2.2.1.child (HA.out.2.2.2.1.child i) (by omega) (Nat.lt_of_le_of_lt (J4 _ _ _ _) HA.out.2.2.2.2.1) (fun p hp=>HA.out.2.2.2.2.2.1 p (Hm.mem_child.1 hp).1)
    have HT:=hid (Qa hnode (Qa hd (Qa hst hD)))
    clear hnode hd hst hit hD H5
    have hbsD:=Ky (P:=Tryz.prog) 105 40 (D.map b8) 32 (by decide) hDm (by decide) Tryz.underlying105 (by kernel_rfl)
    rw[show Op.load 105 (.tmp 27)=Qhy from rfl]
    go_region_held3 (fun _=>True) (exact True.intro)
     (first
       |(refine XK (.tmp 28) (.tmp 34) 105 Tryz.underlying105 UD rfl (by decide) (HT.out.2.2.1.grown (gro H7.out (Qb w7 (.cells (D.map b8).toArray 40)))).ow 1 1 (news:=D.map b8) (by rw[hDm]) (Rd.of _ (Blk.new w7 _ _).whole) (Qi D) (by simp only[maxLen];omega) (by omega) (HT.out.2.2.1.grown (gro H7.out (Qb w7 (.cells (D.map b8).toArray 40)))).sz rfl rfl rfl rfl ?_
         intro v9 w9 hn1 hn2 hn3
         obtain⟨A9,c9,rfl,hr9,hc9⟩:=QC hn1
         have hst9:=HT.out.2.2.1.yes HH.out (gro H7.out (Qb w7 (.cells (D.map b8).toArray 40))) HT.out.2.2.2 hn1 hn2
         have k9:=hst9.1.1
         have f9:=hst9.1.2
         have HN:=hid hst9.2
         clear hn1 hn2 hn3 hr9 hc9 hst9)
       |(go_at_call 102
         refine (HT.out.1 _ HT.out.2.1).mono ?_
         rintro e w7 ⟨rfl,hb7⟩
         have h7:=gro HT.out.2.1 hb7
         have kq7:w7.cell? ⟨w.heap.size+1,1,none⟩=some (.slice A' k' c'):=(by rw[(HT.out.2.2.1.grown h7).sb.cell];rfl)
         have kq7a:∀ o,(w7.alloc o).cell? ⟨w.heap.size+1,1,none⟩=some (.slice A' k' c'):=(fun o=>by rw[((HT.out.2.2.1.grown h7).sb.alloc o).cell];rfl)
         have H7:=hid h7
         clear hb7 h7))
    all_goals
     go_wp2_with fail
     go_roundg (gk-1)
     case measure=>omega
     case rel=>exact⟨i+1,A9,k'+1,c9,by omega,by go_num,HN.out⟩
   ·have hhas:Hm.has n t m i=false:=by
     rw[Hm.has_child]
     have:=H5.out.2.1.1
     cases hc:Hm.child n t i m with
     |nil=>rfl
     |cons _ _=>rw[hc] at this;simp at this;omega
    have HH:=hid hhas
    have hk20:¬(0:Int)< (k2:Int):=by omega
    clear hhas
    go_wp2_with fail
    go_roundg (gk-1)
    case measure=>omega
    case rel=>exact⟨i+1,A',k',c',by omega,by go_num,H5.out.1.no HH.out⟩
  ·obtain rfl:i=16:=by omega
   have hp:=HR.out.sb.whole
   have ht:=HR.out.rt.there 0 2 (by simp)
   obtain⟨b,hb⟩:∃ b,b=Hm.bmf (Hm.has n t m) 16:=⟨_,rfl⟩
   rw[← hb] at hp
   have hoc:∀ v∈[Value.int .u16 b,.slice A' k' c'],v.oneCell'=true:=fun v hv=>by
    simp only[List.mem_cons,List.not_mem_nil,or_false] at hv
    rcases hv with rfl|rfl<;>rfl
   have HB:=hid hb
   clear hb
   go_wp2_with (first
    |((with_reducible refine Qf 151 (.tmp 7) (w.heap.size+1) 0 [.int .u16 b,.slice A' k' c'] 2 _ rfl hp Tryz.underlying151 rfl (by kernel_rfl) ?_ ?_ ?_ ?_);rfl;rfl;rfl)
    |((with_reducible refine Qv 151 (.tmp 6) (.tmp 37) w.heap.size 0 [.int .u16 b,.slice A' k' c'] 2 rfl ht (by kernel_rfl) hoc ?_ ?_ ?_ ?_ ?_);rfl;rfl;rfl;rfl))
   have hrd:=(QU HR.out.ow).1.kept ((Qu.refl (· =w.heap.size) wr).setN 0 [.int .u16 b,.slice A' k' c']) (fun a e hn=>by subst e;have:=(HR.out.ow.lt a.block rfl).1;show ¬a.block=w.heap.size;omega)
   exact QD w.heap.size 0 [.int .u16 b,.slice A' k' c'] 2 _ rfl (World.rangeAt_setCells_same _ _ _ _ ht) Tryz.underlying151 rfl (by kernel_rfl) rfl rfl rfl ⟨A',k',c',by rw[HB.out];rfl,Qc _ (Nat.le_refl _) _ _ _ HR.out.bl,HR.out.kl,hrd⟩
theorem UK (n:Nat)(h2:n≤32)(t:Nat)(A:Option Addr)(k c:Nat)(m:List Pr)(w:World)(hm:Zw w n A k c m)(hs:Hm.Srt n m)(hk:k<524288)(hsz0:QS m<274877906944)(hsz:∀ p∈m,p.key.length<1048576∧p.val.length<1048576)(h1:Hm.single n m=true):
 Calls Tryz.prog 102 #[.int .i64 n,.slice A k c,.int .i64 t] w fun e w'=>e= .returned (dg (Dg.bucket n m))∧Below w.heap.size w w':=by
 have hl:((Dg.bucket n m).map b8).length=32:=by rw[List.length_map];exact Dg.sum_length n _ h2
 obtain⟨D,hD⟩:∃ D,D=Dg.bucket n m:=⟨_,rfl⟩
 rw[← hD] at hl ⊢
 have HB:=hid (Qa (Blk.new w 40 (List.replicate 32 (b8 0))) (Qb w (.cells (List.replicate 32 (b8 0)).toArray 40)))
 have HA:=hid (Qa hm (Qa hs (Qa hsz0 (Qa hsz (Qa h1 hD)))))
 clear hm hs hsz0 hsz h1 hD
 go_enter Tryz.func102,Tryz.ntmps102
 go_wp2_with (first
  |(go_at_call 151
    refine (UB n A2 k c2 L2 m w2 h2 HA.out.1.1 H2.out.2.1 H2.out.2.2 HA.out.2.2.1 (by omega) HA.out.2.2.2.1).mono ?_
    rintro e w3 ⟨rfl,hb3⟩
    rw[← HA.out.2.2.2.2.2]
    have ht:=(HB.out.1.grown (gro H2.out.1 hb3)).there 0 32 (by simp)
    have H3:=hid (gro HB.out.2 (gro H2.out.1 hb3))
    clear hb3)
  |(go_at_call 152
    refine (WV n h2 A k c m w1 (HA.out.1.grown (gro HB.out.2 H1.out)) (by omega)).mono ?_
    rintro e w2 ⟨A2,c2,L2,rfl,hb2,hr2,hp2⟩
    have H2:=hid (Qa (gro H1.out hb2) (Qa hr2 hp2))
    clear hb2 hr2 hp2)
  |(go_at_call 150
    refine (KS n h2 A k c m _ (HA.out.1.grown HB.out.2) HA.out.2.1 (by omega)).mono ?_
    rintro e w1 ⟨rfl,hb1⟩
    rw[HA.out.2.2.2.2.1]
    have H1:=hid hb1
    clear hb1)
  |((with_reducible refine Qv 40 (.tmp 6) (.tmp 13) w.heap.size 0 _ 32 hl ht (by kernel_rfl) (Qi _) ?_ ?_ ?_ ?_ ?_);rfl;rfl;rfl;rfl))
 exact QD w.heap.size 0 _ 32 _ hl (World.rangeAt_setCells_same _ _ _ _ (by rw[hl];exact ht)) Tryz.underlying40 rfl (by kernel_rfl) rfl rfl rfl ⟨rfl,Qc _ (Nat.le_refl _) _ _ _ H3.out⟩
theorem Qgd (n:Nat)(h2:n≤32)(f:Nat)(hN:WW n f)(t:Nat)(A:Option Addr)(k c:Nat)(m:List Pr)(w:World)(hft:f+1+t=2*n)(hm:Zw w n A k c m)(hs:Hm.Srt n m)(hpre:Hm.Pre n t m)(hk:k<524288)(hsz0:QS m<274877906944)(hsz:∀ p∈m,p.key.length<1048576∧p.val.length<1048576)(h1:Hm.single n m=false):
 Calls Tryz.prog 102 #[.int .i64 n,.slice A k c,.int .i64 t] w fun e w'=>e= .returned (dg (Dg.branch n (Hm.bm n t m) (XX n f t m 16)))∧Below w.heap.size w w':=by
 have hl:((Dg.branch n (Hm.bm n t m) (XX n f t m 16)).map b8).length=32:=by rw[List.length_map];exact Dg.sum_length n _ h2
 obtain⟨D,hD⟩:∃ D,D=Dg.branch n (Hm.bm n t m) (XX n f t m 16):=⟨_,rfl⟩
 rw[← hD] at hl ⊢
 have hbm:Hm.bm n t m<65536:=Hm.bmf_lt _
 have hk32:∀ d∈XX n f t m 16,d.length=32:=by
  intro d hd
  unfold XX at hd
  obtain⟨j,-,rfl⟩:=List.mem_map.1 hd
  exact Hm.node_len n h2 _ _ _
 have hk16:=UJ n f t m 16
 obtain⟨ks,hks⟩:∃ ks,ks=XX n f t m 16:=⟨_,rfl⟩
 obtain⟨bm,hbme⟩:∃ bm,bm=Hm.bm n t m:=⟨_,rfl⟩
 rw[← hks,←hbme] at hD
 rw[← hks] at hk32 hk16
 rw[← hbme] at hbm
 have hstep:∀ w',Below w.heap.size w w'→Calls Tryz.prog 153 #[.int .i64 n,.slice A k c,.int .i64 t] w' fun e w''=>∃ A' k' c',e= .returned (.agg #[.int .u16 bm,.slice A' k' c'])∧Below w'.heap.size w' w''∧ks.length=k'∧Rd w'' A' (dgs ks).flatten:=fun w' hb=>by
  rw[hks,hbme];exact Qch n h2 f hN t A k c m w' hft (hm.grown hb) hs hpre hk hsz0 hsz
 have HB:=hid (Qa (Blk.new w 40 (List.replicate 32 (b8 0))) (Qb w (.cells (List.replicate 32 (b8 0)).toArray 40)))
 have HA:=hid (Qa hm (Qa hs (Qa hstep (Qa h1 (Qa hD (Qa hk32 hk16))))))
 clear hm hs hsz0 hsz h1 hD hpre hN hstep hk32 hk16 hks hbme
 go_enter Tryz.func102,Tryz.ntmps102
 go_wp2_with (first
  |(go_at_call 154
    refine (UC n bm A2 k2 c2 ks _ h2 hbm H2.out.2.1 HA.out.2.2.2.2.2.1 (H2.out.2.2.grown (Qb w2 _)) (by have h3:=H2.out.2.1;have h4:=HA.out.2.2.2.2.2.2;omega)).mono ?_
    rintro e w3 ⟨rfl,hb3⟩
    rw[← HA.out.2.2.2.2.1]
    have hbw:=gro (gro H2.out.1 (Qb w2 (.cells #[.int .u16 bm,.slice A2 k2 c2] 151))) hb3
    have ht:=(HB.out.1.grown hbw).there 0 32 (by simp)
    have H3:=hid (gro HB.out.2 hbw)
    clear hb3 hbw)
  |(go_at_call 153
    refine (HA.out.2.2.1 w1 (gro HB.out.2 H1.out)).mono ?_
    rintro e w2 ⟨A2,k2,c2,rfl,hb2,hl2,hr2⟩
    have hbk:=Blk.new w2 151 [.int .u16 bm,.slice A2 k2 c2]
    have k0:(w2.alloc (.cells #[.int .u16 bm,.slice A2 k2 c2] 151)).cell? ⟨w2.heap.size,0,none⟩=some (.int .u16 bm):=hbk.cell 0
    have k1:(w2.alloc (.cells #[.int .u16 bm,.slice A2 k2 c2] 151)).cell? ⟨w2.heap.size,1,none⟩=some (.slice A2 k2 c2):=hbk.cell 1
    have hso:∀ v∈[Value.int .u16 bm,.slice A2 k2 c2],v.oneCell'=true:=(fun v hv=>by
     simp only[List.mem_cons,List.not_mem_nil,or_false] at hv
     rcases hv with rfl|rfl<;>rfl)
    have H2:=hid (Qa (gro H1.out hb2) (Qa hl2 hr2))
    clear hb2 hl2 hr2 hbk)
  |(go_at_call 150
    refine (KS n h2 A k c m _ (HA.out.1.grown HB.out.2) HA.out.2.1 (by omega)).mono ?_
    rintro e w1 ⟨rfl,hb1⟩
    rw[HA.out.2.2.2.1]
    have H1:=hid hb1
    clear hb1)
  |((with_reducible refine Qw 151 (.tmp 7) (.tmp 17) _ _ [.int .u16 bm,.slice A2 k2 c2] 2 rfl ?_ (by kernel_rfl) hso ?_ ?_ ?_ ?_ ?_);rfl;rfl;rfl;rfl;rfl)
  |((with_reducible refine Qv 40 (.tmp 6) (.tmp 23) w.heap.size 0 _ 32 hl ht (by kernel_rfl) (Qi _) ?_ ?_ ?_ ?_ ?_);rfl;rfl;rfl;rfl))
 exact QD w.heap.size 0 _ 32 _ hl (World.rangeAt_setCells_same _ _ _ _ (by rw[hl];exact ht)) Tryz.underlying40 rfl (by kernel_rfl) rfl rfl rfl ⟨rfl,Qc _ (Nat.le_refl _) _ _ _ H3.out⟩
theorem UL (n:Nat)(h2:n≤32):∀ f,WW n f
 |0=>fun t A k c m w hft hm hs hpre hk hsz0 hsz=>UK n h2 t A k c m w hm hs hk hsz0 hsz (hpre.single h2 (by omega))
 |f+1=>fun t A k c m w hft hm hs hpre hk hsz0 hsz=>by
  by_cases h1:Hm.single n m=true
  ·rw[Hm.node_single h1];exact UK n h2 t A k c m w hm hs hk hsz0 hsz h1
  ·have h1':Hm.single n m=false:=by simpa using h1
   rw[Hm.node,if_neg h1]
   exact Qgd n h2 f (UL n h2 f) t A k c m w (by omega) hm hs hpre hk hsz0 hsz h1'
theorem Qci (n:Nat)(h2:n≤32)(A:Option Addr)(k c:Nat)(m:List Pr)(w:World)(hm:Zw w n A k c m)(hs:Hm.Srt n m)(hk:k<524288)(hsz0:QS m<274877906944)(hsz:∀ p∈m,p.key.length<1048576∧p.val.length<1048576):
 Calls Tryz.prog 63 #[.int .i64 n,.slice A k c] w fun e w'=>e= .returned (dg (Hm.root n m))∧Below w.heap.size w w':=by
 have hll:(Hm.root n m).length=32:=by unfold Hm.root;split;exact Dg.sum_length n _ h2;exact Hm.node_len n h2 _ _ _
 have hl:((Hm.root n m).map b8).length=32:=by rw[List.length_map,hll]
 obtain⟨D,hD⟩:∃ D,D=Hm.root n m:=⟨_,rfl⟩
 rw[← hD] at hl ⊢
 have HB:=hid (Qa (Blk.new w 40 (List.replicate 32 (b8 0))) (Qb w (.cells (List.replicate 32 (b8 0)).toArray 40)))
 rcases Nat.eq_zero_or_pos k with hk0|hk0
 ·subst hk0
  obtain rfl:m=[]:=List.length_eq_zero_iff.1 hm.1
  have HA:=hid (show Dg.noMap n=D from hD.symm)
  clear hD hm hs hsz0 hsz hll
  go_enter Tryz.func63,Tryz.ntmps63
  go_wp2_with (first
   |(go_at_call 16
     refine (WP n _ h2).mono ?_
     rintro e w2 ⟨rfl,hb2⟩
     rw[HA.out]
     have ht:=(HB.out.1.grown hb2).there 0 32 (by simp)
     have H2:=hid (gro HB.out.2 hb2)
     clear hb2)
   |((with_reducible refine Qv 40 (.tmp 4) (.tmp 9) w.heap.size 0 _ 32 hl ht (by kernel_rfl) (Qi _) ?_ ?_ ?_ ?_ ?_);rfl;rfl;rfl;rfl))
  exact QD w.heap.size 0 _ 32 _ hl (World.rangeAt_setCells_same _ _ _ _ (by rw[hl];exact ht)) Tryz.underlying40 rfl (by kernel_rfl) rfl rfl rfl ⟨rfl,Qc _ (Nat.le_refl _) _ _ _ H2.out⟩
 ·have he:m.isEmpty=false:=by cases m with
   |nil=>have:=hm.1;simp at this;omega
   |cons _ _=>rfl
  have hnode:∀ w',Below w.heap.size w w'→Calls Tryz.prog 102 #[.int .i64 n,.slice A k c,.int .i64 0] w' fun e w''=>e= .returned (dg D)∧Below w'.heap.size w' w'':=fun w' hb=>by
   rw[hD];unfold Hm.root;rw[he]
   exact UL n h2 (2*n) 0 A k c m w' (by omega) (hm.grown hb) hs (fun p _ q _ i hi=>by omega) hk hsz0 hsz
  have HA:=hid hnode
  have hk1:¬(k:Int)=0:=by omega
  clear hD hm hs hsz0 hsz hll hnode he
  go_enter Tryz.func63,Tryz.ntmps63
  go_wp2_with (first
   |(go_at_call 102
     refine (HA.out _ HB.out.2).mono ?_
     rintro e w2 ⟨rfl,hb2⟩
     have ht:=(HB.out.1.grown hb2).there 0 32 (by simp)
     have H2:=hid (gro HB.out.2 hb2)
     clear hb2)
   |((with_reducible refine Qv 40 (.tmp 4) (.tmp 12) w.heap.size 0 _ 32 hl ht (by kernel_rfl) (Qi _) ?_ ?_ ?_ ?_ ?_);rfl;rfl;rfl;rfl))
  exact QD w.heap.size 0 _ 32 _ hl (World.rangeAt_setCells_same _ _ _ _ (by rw[hl];exact ht)) Tryz.underlying40 rfl (by kernel_rfl) rfl rfl rfl ⟨rfl,Qc _ (Nat.le_refl _) _ _ _ H2.out⟩
end Go.Proofs.YtpnakfeafekneaaGreatDoor
