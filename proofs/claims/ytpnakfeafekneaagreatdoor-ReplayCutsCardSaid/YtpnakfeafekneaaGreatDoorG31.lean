/- Part 31 of this proof. -/
import Derived.Test.YtpnakfeafekneaaGreatDoorG30
set_option linter.unusedSimpArgs false
set_option linter.unusedVariables false
set_option maxHeartbeats 8000000
set_option maxRecDepth 100000
namespace Go.Proofs.YtpnakfeafekneaaGreatDoor
open Go.RowKit
namespace Lx
def less:List UInt8→List UInt8→Int
 |[],b=> -(b.length:Int)
 |a :: r,[]=>((a :: r).length:Int)
 |x :: xs,y :: ys=>if x=y then less xs ys else n8 x-n8 y
theorem cmpB_less {x y:UInt8}(h:x≠y):(n8 x-n8 y<0↔cmpB x y<0)∧cmpB x y≠0∧n8 x-n8 y≠0:=by
 have h1:n8 x≠n8 y:=fun e=>h (Ka e)
 have h2:x<y↔n8 x<n8 y:=by unfold n8;rw[UInt8.lt_iff_toNat_lt];omega
 have h3:y<x↔n8 y<n8 x:=by unfold n8;rw[UInt8.lt_iff_toNat_lt];omega
 unfold cmpB
 split
 ·rename_i hh;have:=h2.1 hh;exact⟨by omega,by omega,by omega⟩
 ·rename_i hh
  split
  ·rename_i hh2;have:=h3.1 hh2;exact⟨by omega,by omega,by omega⟩
  ·rename_i hh2;exfalso;have a1:¬n8 x<n8 y:=fun h=>hh (h2.2 h);have a2:¬n8 y<n8 x:=fun h=>hh2 (h3.2 h);omega
theorem less_cmp:∀ (a b:List UInt8),(less a b<0↔cmp a b<0)∧(less a b=0↔cmp a b=0)
 |[],[]=>by simp[less,cmp]
 |[],_ :: _=>by simp[less,cmp];omega
 |_ :: _,[]=>by simp[less,cmp];omega
 |x :: xs,y :: ys=>by
  unfold less cmp
  by_cases h:x=y
  ·subst h;rw[if_pos rfl,cmpB_self];simpa using less_cmp xs ys
  ·obtain⟨h1,h2,h3⟩:=cmpB_less h
   rw[if_neg h,if_pos h2]
   exact⟨h1,⟨fun e=>absurd e h3,fun e=>absurd e h2⟩⟩
theorem less_bound:∀ (a b:List UInt8),-(b.length:Int)-256<less a b∧less a b< (a.length:Int)+256
 |[],b=>by simp[less];omega
 |a :: r,[]=>by simp[less];omega
 |x :: xs,y :: ys=>by
  unfold less
  have h1:=KJ x;have h2:=Xw x;have h3:=KJ y;have h4:=Xw y
  split
  ·have:=less_bound xs ys;simp only[List.length_cons];omega
  ·simp only[List.length_cons];omega
theorem less_drop {a b:List UInt8}{j:Nat}(h1:j<a.length)(h2:j<b.length):less (a.drop j) (b.drop j)=if a[j]=b[j] then less (a.drop (j+1)) (b.drop (j+1)) else n8 a[j]-n8 b[j]:=by
 rw[List.drop_eq_getElem_cons h1,List.drop_eq_getElem_cons h2,less]
theorem less_end {a b:List UInt8}{j:Nat}(h0:j≤a.length)(h1:j≤b.length)(h:j=a.length∨j=b.length):less (a.drop j) (b.drop j)=(a.length:Int)-b.length:=by
 rcases h with rfl|rfl
 ·rw[List.drop_length];simp only[less,List.length_drop];omega
 ·rw[List.drop_length]
  by_cases e:a.length=b.length
  ·rw[List.drop_of_length_le (by omega)];simp[less,e]
  ·have:0< (a.drop b.length).length:=by rw[List.length_drop];omega
   obtain⟨x,r,hx⟩:=List.exists_cons_of_length_pos this
   have hl:(a.drop b.length).length=a.length-b.length:=List.length_drop
   rw[hx] at hl ⊢
   simp only[less];rw[hl];omega
end Lx
theorem X1 (x:Int)(h1: -1024≤x)(h2:x<1024):wrap64 x=x:=by unfold wrap64;omega
theorem Qcf (x y:UInt8):wrap64 (wrap64 (n8 x)-wrap64 (n8 y))=n8 x-n8 y:=by
 have h1:=KJ x;have h2:=Xw x;have h3:=KJ y;have h4:=Xw y
 rw[X1 (n8 x) (by omega) (by omega),X1 (n8 y) (by omega) (by omega),X1 _ (by omega) (by omega)]
theorem Yu (A1:Option Addr)(n1 c1:Nat)(l1:List UInt8)(A2:Option Addr)(n2 c2:Nat)(l2:List UInt8)(w:World)(hn1:l1.length=n1)(hn2:l2.length=n2)(h1:Rd w A1 (l1.map b8))(h2:Rd w A2 (l2.map b8))(hl:n1<1099511627776)(hl2:n2<1099511627776):
 Calls Tryz.prog 36 #[.slice A1 n1 c1,.slice A2 n2 c2] w fun e w'=>e= .returned (.bool (l1 == l2))∧Below w.heap.size w w':=by
 have HA:=hid (Qa hn1 (Qa hn2 (Qa h1 h2)))
 clear hn1 hn2 h1 h2
 by_cases hne:n1=n2
 ·subst hne
  go_enter Tryz.func36,Tryz.ntmps36
  go_wp2_with fail
  go_loopg [13] n1 (fun g i wr=>∃ j:Nat,j+g=n1∧i= .int .i64 j∧l1.take j=l2.take j∧Below w.heap.size w wr)
  case atStart=>exact⟨0,by omega,rfl,rfl,Below.refl _ _⟩
  case round=>
   obtain⟨j,hj,rfl,he,hb⟩:=hrel
   have HI:=hid (Qa he hb)
   clear he hb
   by_cases hlt:j<n1
   ·have hj1:j<l1.length:=by rw[HA.out.1];exact hlt
    have hj2:j<l2.length:=by rw[HA.out.2.1];exact hlt
    obtain⟨g1,o1,rfl,hr1⟩:=HA.out.2.2.1 (by intro e;rw[← List.length_map (f:=b8),e] at hj1;simp at hj1)
    obtain⟨g2,o2,rfl,hr2⟩:=HA.out.2.2.2 (by intro e;rw[← List.length_map (f:=b8),e] at hj2;simp at hj2)
    obtain⟨x,hx⟩:∃ x,x=l1[j]:=⟨_,rfl⟩
    obtain⟨y,hy⟩:∃ y,y=l2[j]:=⟨_,rfl⟩
    have hlb1:=Qo hr1 (by simp;omega)
    have hlb2:=Qo hr2 (by simp;omega)
    have q1:=Fut.cell (Qh hr1 HI.out.2 hlb1 j (b8 x) (by simp[hj1,hx]))
    have q2:=Fut.cell (Qh hr2 HI.out.2 hlb2 j (b8 y) (by simp[hj2,hy]))
    have HX:=hid (Qa hx hy)
    clear hx hy hr1 hr2 hlb1 hlb2
    go_upto_region 6 with fail
    refine Qr (by kernel_rfl) (by kernel_rfl) ?_
    repeat go_big_quiet_step (fail)
    refine wpQuiet_nil ?_
    rintro _ ⟨s,rfl⟩
    clear q1 q2
    by_cases hxy:x=y
    ·subst hxy
     go_wp2_with fail
     go_roundg (gk-1)
     case measure=>omega
     case rel=>exact⟨j+1,by omega,by go_num,by rw[List.take_succ_eq_append_getElem hj1,List.take_succ_eq_append_getElem hj2,HI.out.1,←HX.out.1,←HX.out.2],gro HI.out.2 s.below⟩
    ·have hne2:l1≠l2:=fun e=>hxy (by rw[HX.out.1,HX.out.2];simp only[e])
     have HN:=hid hne2
     clear hne2
     rw[show (n8 x != n8 y)=true from by simpa using fun e=>hxy (Ka e)]
     go_wp2_with fail
     go_ret
     exact⟨by rw[show (l1 == l2)=false from by simpa using HN.out];rfl,gro HI.out.2 s.below⟩
   ·obtain rfl:j=n1:=by omega
    have he:=HI.out.1
    rw[List.take_of_length_le (by rw[HA.out.1];exact Nat.le_refl _),List.take_of_length_le (by rw[HA.out.2.1];exact Nat.le_refl _)] at he
    have HE:=hid he
    clear he
    go_wp2_with fail
    go_ret
    exact⟨by rw[HE.out];simp,HI.out.2⟩
 ·have hf:(l1 == l2)=false:=by
   have:l1≠l2:=fun e=>hne (by rw[← HA.out.1,←HA.out.2.1,e])
   simpa using this
  have HF:=hid hf
  clear hf
  have hni:¬(n1:Int)=(n2:Int):=by omega
  go_enter Tryz.func36,Tryz.ntmps36
  go_wp2_with fail
  go_ret
  exact⟨by rw[HF.out];rfl,Below.refl _ _⟩
theorem UG (A1:Option Addr)(n1 c1:Nat)(l1:List UInt8)(A2:Option Addr)(n2 c2:Nat)(l2:List UInt8)(w:World)(hn1:l1.length=n1)(hn2:l2.length=n2)(h1:Rd w A1 (l1.map b8))(h2:Rd w A2 (l2.map b8))(hl:n1<1099511627776)(hl2:n2<1099511627776):
 Calls Tryz.prog 198 #[.slice A1 n1 c1,.slice A2 n2 c2] w fun e w'=>e= .returned (.int .i64 (Lx.less l1 l2))∧Below w.heap.size w w':=by
 have HA:=hid (Qa hn1 (Qa hn2 (Qa h1 h2)))
 clear hn1 hn2 h1 h2
 go_enter Tryz.func198,Tryz.ntmps198
 go_wp2_with fail
 go_loopg [5] n1 (fun g i wr=>∃ j:Nat,j+g=n1∧j≤n2∧i= .int .i64 j∧Lx.less l1 l2=Lx.less (l1.drop j) (l2.drop j)∧Below w.heap.size w wr)
 case atStart=>exact⟨0,by omega,by omega,rfl,rfl,Below.refl _ _⟩
 case round=>
  obtain⟨j,hj,hjn2,rfl,he,hb⟩:=hrel
  have HI:=hid (Qa he hb)
  clear he hb
  by_cases hlt:j<n1∧j<n2
  ·obtain⟨hlt1,hlt2⟩:=hlt
   have hj1:j<l1.length:=by rw[HA.out.1];exact hlt1
   have hj2:j<l2.length:=by rw[HA.out.2.1];exact hlt2
   obtain⟨g1,o1,rfl,hr1⟩:=HA.out.2.2.1 (by intro e;rw[← List.length_map (f:=b8),e] at hj1;simp at hj1)
   obtain⟨g2,o2,rfl,hr2⟩:=HA.out.2.2.2 (by intro e;rw[← List.length_map (f:=b8),e] at hj2;simp at hj2)
   have hld:=Lx.less_drop hj1 hj2
   obtain⟨x,hx⟩:∃ x,x=l1[j]:=⟨_,rfl⟩
   obtain⟨y,hy⟩:∃ y,y=l2[j]:=⟨_,rfl⟩
   rw[← hx,←hy,←HI.out.1] at hld
   have hlb1:=Qo hr1 (by simp;omega)
   have hlb2:=Qo hr2 (by simp;omega)
   have p1:=(Qh hr1 HI.out.2 hlb1 j (b8 x) (by simp[hj1,hx]))
   have p2:=(Qh hr2 HI.out.2 hlb2 j (b8 y) (by simp[hj2,hy]))
   have q1:=Fut.cell p1
   have q2:=Fut.cell p2
   have HX:=hid (Qa hld (Qa p1 p2))
   clear hx hy hr1 hr2 hlb1 hlb2 hld p1 p2
   go_upto_region 4 with fail
   refine Qr (by kernel_rfl) (by kernel_rfl) ?_
   repeat go_big_quiet_step (fail)
   refine wpQuiet_nil ?_
   rintro _ ⟨s,rfl⟩
   have r1:=Fut.cell (q1 s)
   have r2:=Fut.cell (q2 s)
   clear q1 q2
   by_cases hxy:x=y
   ·subst hxy
    go_wp2_with fail
    go_roundg (gk-1)
    case measure=>omega
    case rel=>exact⟨j+1,by omega,by omega,by go_num,by rw[HX.out.1];simp,gro HI.out.2 s.below⟩
   ·have hf:(x == y)=false:=by simpa using hxy
    have hxi:¬n8 x=n8 y:=fun e=>hxy (Ka e)
    rw[show (n8 x != n8 y)=true from by simpa using hxi]
    go_upto_region 5 with fail
    refine Qr (by kernel_rfl) (by kernel_rfl) ?_
    repeat go_big_quiet_step (fail)
    refine wpQuiet_nil ?_
    rintro _ ⟨s2,rfl⟩
    have hb1:=KJ x;have hb2:=Xw x;have hb3:=KJ y;have hb4:=Xw y
    have hz:wrap64 (wrap64 (n8 x)-wrap64 (n8 y))=n8 x-n8 y:=Qcf x y
    have HZ:=hid hz
    clear hb1 hb2 hb3 hb4 hz
    go_wp2_with fail
    go_ret
    exact⟨by rw[HX.out.1,if_neg hxy];show Ending.returned (.int .i64 (wrap64 (wrap64 (n8 x)-wrap64 (n8 y))))=_;rw[HZ.out],gro (gro HI.out.2 s.below) s2.below⟩
  ·have hend:=Lx.less_end (a:=l1) (b:=l2) (j:=j) (by rw[HA.out.1];omega) (by rw[HA.out.2.1];omega) (by rw[HA.out.1,HA.out.2.1];omega)
   rw[← HI.out.1,HA.out.1,HA.out.2.1] at hend
   have HE:=hid hend
   clear hend
   by_cases hlt1:j<n1
   ·have hlt2:¬j<n2:=fun h=>hlt ⟨hlt1,h⟩
    clear hlt
    go_wp2_with fail
    go_ret
    exact⟨by rw[HE.out];rfl,HI.out.2⟩
   ·clear hlt
    go_wp2_with fail
    go_ret
    exact⟨by rw[HE.out];rfl,HI.out.2⟩
def ZN (w:World)(n:Nat)(x:List Value)(p:Pr):Prop:=∃ y,x=(Dg.key n p.key).map b8++y∧QO w y p
structure Xs (w:World) (n:Nat) (L:List (List Value)) (m:List Pr):Prop where
 len:L.length=m.length
 at_:∀ (i:Nat) (x:List Value) (p:Pr),L[i]?=some x→m[i]?=some p→ZN w n x p
theorem XW (n:Nat)(h2:n≤32)(k:List UInt8):(Dg.key n k).length=32:=Dg.sum_length n _ h2
theorem ZN.grown {w w':World}{n:Nat}{x:List Value}{p:Pr}(h:ZN w n x p)(hb:Below w.heap.size w w'):ZN w' n x p:=by
 obtain⟨y,e,h⟩:=h
 exact⟨y,e,h.grown hb⟩
theorem ZN.stay {w w':World}(h:QQ Xr w w'){n:Nat}{x:List Value}{p:Pr}(hp:ZN w n x p):ZN w' n x p:=by
 obtain⟨y,e,hp⟩:=hp
 exact⟨y,e,hp.stay h⟩
theorem Xs.grown {w w':World}{n:Nat}{L:List (List Value)}{m:List Pr}(h:Xs w n L m)(hb:Below w.heap.size w w'):Xs w' n L m:=⟨h.len,fun i x p h1 h2=>(h.at_ i x p h1 h2).grown hb⟩
theorem Xs.stay {w w':World}(h:QQ Xr w w'){n:Nat}{L:List (List Value)}{m:List Pr}(hp:Xs w n L m):Xs w' n L m:=⟨hp.len,fun i x p h1 h2=>(hp.at_ i x p h1 h2).stay h⟩
theorem ZN.len {w:World}{n:Nat}{x:List Value}{p:Pr}(h2:n≤32)(h:ZN w n x p):x.length=34:=by
 obtain⟨y,rfl,A1,c1,A2,c2,rfl,-⟩:=h
 simp[XW n h2]
theorem ZN.oc {w:World}{n:Nat}{x:List Value}{p:Pr}(h:ZN w n x p):∀ v∈x,v.oneCell'=true:=by
 obtain⟨y,rfl,A1,c1,A2,c2,rfl,-⟩:=h
 intro v hv
 rcases List.mem_append.1 hv with h|h
 ·exact Qi _ v h
 ·simp only[List.mem_cons,List.not_mem_nil,or_false] at h
  rcases h with rfl|rfl<;>rfl
theorem Xs.all34 {w:World}{n:Nat}{L:List (List Value)}{m:List Pr}(h2:n≤32)(h:Xs w n L m):∀ x∈L,x.length=34:=by
 intro x hx
 obtain⟨i,hi,rfl⟩:=List.getElem_of_mem hx
 have hps:i<m.length:=by have:=h.len;omega
 exact (h.at_ i L[i] m[i] (by simp[hi]) (by simp[hps])).len h2
theorem Xs.one {w:World}{n:Nat}{x:List Value}{p:Pr}(h:ZN w n x p):Xs w n [x] [p]:=by
 refine⟨rfl,fun i y q h1 h3=>?_⟩
 have hi:i=0:=by have:=(List.getElem?_eq_some_iff.1 h1).1;simp at this;omega
 subst hi
 simp at h1 h3;subst h1;subst h3;exact h
theorem Xs.append {w:World}{n:Nat}{L1 L2:List (List Value)}{m1 m2:List Pr}(h1:Xs w n L1 m1)(h2:Xs w n L2 m2):Xs w n (L1++L2) (m1++m2):=by
 refine⟨by simp[h1.len,h2.len],fun i x p hx hp=>?_⟩
 have hl:=h1.len
 by_cases hi:i<L1.length
 ·rw[List.getElem?_append_left hi] at hx
  rw[List.getElem?_append_left (by omega)] at hp
  exact h1.at_ i x p hx hp
 ·rw[List.getElem?_append_right (by omega)] at hx
  rw[List.getElem?_append_right (by omega)] at hp
  exact h2.at_ _ x p hx (by rw[hl];exact hp)
theorem Xs.nil (w:World)(n:Nat):Xs w n [] []:=⟨rfl,fun i x p h=>by simp at h⟩
theorem Qgc (parts:List (Nat×Value)):Tryz.prog.built 225 parts=Instr.fill ((#[(0,32),(32,2)]:Array (Nat×Nat))[·]?) (List.replicate 32 (b8 0)++[Value.slice none 0 0,Value.slice none 0 0]).toArray parts:=by kernel_rfl
theorem Qd9 (d:List UInt8)(hd:d.length=32)(k v:Value):Tryz.prog.built 225 [(0,dg d),(1,.agg #[k,v])]=some (d.map b8++[k,v]).toArray:=by
 have hD:(d.map b8).length=32:=by simp[hd]
 rw[Qgc,QE _ _ 0 _ _ 0 32 rfl (d.map b8) rfl hD (by simp),Q6 _ _ _ (by rw[hD];simp),
  QE _ _ 1 _ _ 32 2 rfl [k,v] rfl rfl (by simp[hd]),QM _ _ _ _ (by simp[hd]),
  show splice [Value.slice none 0 0,Value.slice none 0 0] (32-(d.map b8).length) [k,v]=[k,v] from by rw[hD];rfl]
 rfl
theorem VL (d:List UInt8)(hd:d.length=32)(k v:Value)(w:World):(Instr.build 225 #[(0,dg d),(1,.agg #[k,v])]).run Tryz.prog w= .ok (.agg (d.map b8++[k,v]).toArray) w:=
 run_build (P:=Tryz.prog) w _ #[(0,dg d),(1,.agg #[k,v])] _ (Qd9 d hd k v)
theorem VM (A1:Option Addr)(n1 c1:Nat)(A2:Option Addr)(n2 c2:Nat)(w:World):(Instr.build 166 #[(0,.slice A1 n1 c1),(1,.slice A2 n2 c2)]).run Tryz.prog w= .ok (.agg #[.slice A1 n1 c1,.slice A2 n2 c2]) w:=
 run_build (P:=Tryz.prog) w _ #[(0,.slice A1 n1 c1),(1,.slice A2 n2 c2)] _ (by kernel_rfl)
theorem Vd (A:Option Addr)(n c:Nat)(l:List UInt8)(w:World)(hn:l.length=n)(h:Rd w A (l.map b8))(hl:n<1099511627776):
 Calls Tryz.prog 15 #[.slice A n c] w fun e w'=>Yg 5 w n (l.map b8) e w':=by
 subst hn;exact KA A c l w h (by omega)
attribute [-go_sem] Instr.build Instr.buildSlice in
theorem Qea (n:Nat)(h2:n≤32)(A1:Option Addr)(n1 c1:Nat)(key:List UInt8)(A2:Option Addr)(n2 c2:Nat)(val:List UInt8)(w:World)(hn1:key.length=n1)(hn2:val.length=n2)(h1:Rd w A1 (key.map b8))(h3:Rd w A2 (val.map b8))(hl1:n1<1048576)(hl2:n2<1048576):
 Calls Tryz.prog 155 #[.int .i64 n,.slice A1 n1 c1,.slice A2 n2 c2] w fun e w'=>∃ x,e= .returned (.agg x.toArray)∧Below w.heap.size w w'∧ZN w' n x ⟨key,val⟩:=by
 have hz:=Blk.new w 225 (List.replicate 32 (b8 0)++[Value.slice none 0 0,.slice none 0 0])
 have HA:=hid (Qa hn1 (Qa hn2 (Qa h1 (Qa h3 (Qa hz (Qb w (.cells (List.replicate 32 (b8 0)++[Value.slice none 0 0,.slice none 0 0]).toArray 225)))))))
 clear hn1 hn2 h1 h3 hz
 obtain⟨D,hD⟩:∃ D,D=Dg.key n key:=⟨_,rfl⟩
 have hD32:D.length=32:=by rw[hD];exact XW n h2 key
 have HD:=hid hD
 clear hD
 go_enter Tryz.func155,Tryz.ntmps155
 go_upto_region 1 with fail
 refine Qe (fun w'=>Blk w' w.heap.size 225 (List.replicate 32 (b8 0)++[Value.slice none 0 0,.slice none 0 0])∧Below w.heap.size w w') HA.out.2.2.2.2 ?_
 rintro w0 ⟨hz,hbl⟩
 have HZ:=hid (Qa hz hbl)
 clear hz hbl
 have hpr:=VM
 have hit:=VL D hD32
 go_wp2_with (first
  |(go_at_call 15
    with_reducible refine (Vd A2 n2 c2 val w2 HA.out.2.1 (HA.out.2.2.2.1.grown H2.out.1) (by omega)).mono ?_
    rintro e w3 ⟨A6,c6,rfl,hb3,hr6,hc6,-,ht6⟩
    have hb33:=gro H2.out.1 hb3
    have hx:QO w3 [.slice A5 n1 c5,.slice A6 n2 c6] ⟨key,val⟩:=⟨A5,c5,A6,c6,by rw[HA.out.1,HA.out.2.1],H2.out.2.1.grown hb3,hr6,by rw[HA.out.1];exact H2.out.2.2.1,by rw[HA.out.2.1];exact hc6,TyB.zero (H2.out.2.2.2.1.grown hb3),TyB.zero ht6⟩
    have hzz:=H2.out.2.2.2.2.grown hb3
    have hth:=hzz.there 0 34 (by simp)
    have hxl:(D.map b8++[Value.slice A5 n1 c5,.slice A6 n2 c6]).length=34:=(by simp[hD32])
    have hxo:∀ v∈D.map b8++[Value.slice A5 n1 c5,.slice A6 n2 c6],v.oneCell'=true:=(fun v hv=>by
     rcases List.mem_append.1 hv with h|h
     ·exact Qi _ v h
     ·simp only[List.mem_cons,List.not_mem_nil,or_false] at h
      rcases h with rfl|rfl<;>rfl)
    have H3:=hid (Qa hb33 (Qa hx (Qa hzz (Qa hxl hxo))))
    clear hb3 hr6 hc6 ht6 hb33 hx hzz hxl hxo)
  |(go_at_call 15
    with_reducible refine (Vd A1 n1 c1 key w1 HA.out.1 (HA.out.2.2.1.grown H1.out.1) (by omega)).mono ?_
    rintro e w2 ⟨A5,c5,rfl,hb2,hr5,hc5,-,ht5⟩
    have H2:=hid (Qa (gro H1.out.1 hb2) (Qa hr5 (Qa hc5 (Qa ht5 (H1.out.2.grown hb2)))))
    clear hb2 hr5 hc5 ht5)
  |(go_at_call 197
    refine (Qd6 n A1 n1 c1 key _ h2 HA.out.1 (HA.out.2.2.1.grown HZ.out.2) (by omega)).mono ?_
    rintro e w1 ⟨rfl,hb1⟩
    rw[← HD.out]
    have H1:=hid (Qa (gro HZ.out.2 hb1) (HZ.out.1.grown hb1))
    clear hb1)
  |((with_reducible refine Qv 225 (.tmp 6) (.tmp 15) w.heap.size 0 (D.map b8++[Value.slice A5 n1 c5,.slice A6 n2 c6]) 34 H3.out.2.2.2.1 hth (by kernel_rfl) H3.out.2.2.2.2 ?_ ?_ ?_ ?_ ?_);rfl;rfl;rfl;rfl))
 exact QD w.heap.size 0 _ 34 _ H3.out.2.2.2.1 (World.rangeAt_setCells_same _ _ _ _ (by rw[H3.out.2.2.2.1];exact hth)) Tryz.underlying225 rfl (by kernel_rfl) rfl rfl rfl ⟨_,rfl,Qc _ (Nat.le_refl _) _ _ _ H3.out.1,_,by rw[HD.out],H3.out.2.1.stay (Js H3.out.2.2.1 (by decide) 0 _)⟩
def Hm.ord (n:Nat)(p q:Pr):Int:=if Lx.less (Dg.key n p.key) (Dg.key n q.key)≠0 then Lx.less (Dg.key n p.key) (Dg.key n q.key) else Lx.less p.key q.key
theorem Hm.ord_cmp (n:Nat)(p q:Pr):(Hm.ord n p q<0↔Hm.cmp n p q<0)∧(Hm.ord n p q=0↔Hm.cmp n p q=0):=by
 obtain⟨h1,h2⟩:=Lx.less_cmp (Dg.key n p.key) (Dg.key n q.key)
 unfold Hm.ord Hm.cmp
 by_cases h:Lx.less (Dg.key n p.key) (Dg.key n q.key)=0
 ·rw[if_neg (by simp[h]),if_neg (by simp[h2.1 h])];exact Lx.less_cmp _ _
 ·rw[if_pos h,if_pos (fun e=>h (h2.2 e))];exact⟨h1,h2⟩
theorem ZZ {T e:TypeId}{n:Nat}{P:Program}(hT:P.underlying T=some (.array n e))(hs:(P.info? e).map (·.size)=some 1)(b o:Nat)(hn:0<n)(w:World):
 (Instr.sliceAt T (.pointer (some ⟨b,o,none⟩)) none none none).run P w= .ok (.slice (some ⟨b,o,none⟩) n n) w:=by
 simp[Instr.sliceAt,Instr.sureAddr,run_underlying hT,Instr.sliceBounds,Instr.sliceBound,asIntOf,QN hs,Addr.add,hn,Nat.pos_iff_ne_zero.1 hn]
theorem J3 {w w0:World}{n b:Nat}{x:List Value}{p:Pr}(h2:n≤32)(h:ZN w0 n x p)(hb:Blk w b 225 x):∃ A1 c1 A2 c2,w.rangeAt b 0 ((Dg.key n p.key).map b8)∧w.cell? ⟨b,32,none⟩=some (.slice A1 p.key.length c1)∧w.cell? ⟨b,33,none⟩=some (.slice A2 p.val.length c2)∧Rd w0 A1 (p.key.map b8)∧Rd w0 A2 (p.val.map b8):=by
 obtain⟨y,rfl,A1,c1,A2,c2,rfl,h1,h2',-⟩:=h
 have hl:((Dg.key n p.key).map b8).length=32:=by rw[List.length_map];exact XW n h2 _
 refine⟨A1,c1,A2,c2,(Q8 hb.whole).1,?_,?_,h1,h2'⟩
 ·rw[hb.cell,List.getElem?_append_right (by omega),hl];rfl
 ·rw[hb.cell,List.getElem?_append_right (by omega),hl];rfl
theorem Zp (n:Nat)(h2:n≤32)(x y:List Value)(p q:Pr)(w:World)(hx:ZN w n x p)(hy:ZN w n y q)(hp:p.key.length<1048576)(hq:q.key.length<1048576):
 Calls Tryz.prog 156 #[.agg x.toArray,.agg y.toArray] w fun e w'=>e= .returned (.int .i64 (Hm.ord n p q))∧Below w.heap.size w w':=by
 have hb1:=(Blk.new w 225 x).alloc (.cells y.toArray 225)
 have hb2:=Blk.new (w.alloc (.cells x.toArray 225)) 225 y
 rw[show (w.alloc (.cells x.toArray 225)).heap.size=w.heap.size+1 by simp] at hb2
 have HA:=hid (Qa hx (Qa hy (Qa hb1 (Qa hb2 (gro (Qb w (.cells x.toArray 225)) (Qb _ (.cells y.toArray 225)))))))
 clear hx hy hb1 hb2
 go_enter Tryz.func156,Tryz.ntmps156
 go_upto_region 1 with fail
 refine Qe (fun w'=>Blk w' w.heap.size 225 x∧Blk w' (w.heap.size+1) 225 y∧Below w.heap.size w w') HA.out.2.2 ?_
 rintro w1 ⟨hb1,hb2,hbl⟩
 obtain⟨A1,c1,A2,c2,k1,k2,-,r1,-⟩:=J3 h2 HA.out.1 hb1
 obtain⟨B1,d1,B2,d2,m1,m2,-,s1,-⟩:=J3 h2 HA.out.2.1 hb2
 obtain⟨dp,hdp⟩:∃ d,d=Dg.key n p.key:=⟨_,rfl⟩
 obtain⟨dq,hdq⟩:∃ d,d=Dg.key n q.key:=⟨_,rfl⟩
 have hdl1:dp.length=32:=by rw[hdp];exact XW n h2 _
 have hdl2:dq.length=32:=by rw[hdq];exact XW n h2 _
 rw[← hdp] at k1
 rw[← hdq] at m1
 have a1:=ZZ (P:=Tryz.prog) Tryz.underlying40 (by kernel_rfl) w.heap.size 0 (by decide)
 have a2:=ZZ (P:=Tryz.prog) Tryz.underlying40 (by kernel_rfl) (w.heap.size+1) 0 (by decide)
 have hc1:∀ s:Fut w1,Calls Tryz.prog 198 #[.slice (some ⟨w.heap.size,0,none⟩) 32 32,.slice (some ⟨w.heap.size+1,0,none⟩) 32 32] s.v fun e w''=>e= .returned (.int .i64 (Lx.less dp dq))∧∃ s':Fut w1,w''=s'.v:=fun s=>
  Calls.fut_of (UG _ 32 32 dp _ 32 32 dq s.v hdl1 hdl2 (Rd.of _ (Qm k1 s.below)) (Rd.of _ (Qm m1 s.below)) (by decide) (by decide))
 obtain⟨Z,hZ⟩:∃ Z,Z=Lx.less dp dq:=⟨_,rfl⟩
 have hzb:=Lx.less_bound dp dq
 rw[← hZ] at hc1 hzb
 obtain⟨np,hnp⟩:∃ np,p.key.length=np:=⟨_,rfl⟩
 obtain⟨nq,hnq⟩:∃ nq,q.key.length=nq:=⟨_,rfl⟩
 rw[hnp] at k2 hp
 rw[hnq] at m2 hq
 have hord:Hm.ord n p q=if Z≠0 then Z else Lx.less p.key q.key:=by unfold Hm.ord;rw[← hdp,←hdq,←hZ]
 have HC:=hid (Qa hc1 (Qa r1 (Qa s1 (Qa hnp (Qa hnq (Qa hord (Qa hbl (Qa k2 m2))))))))
 clear hc1 r1 s1 hnp hnq hord hbl hb1 hb2 k1 m1 hdp hdq hZ hdl1 hdl2 HA hzb k2 m2
 refine Qr (by kernel_rfl) (by kernel_rfl) ?_
 repeat go_big_quiet_step (with_reducible exact HC.out.1 _)
 refine wpQuiet_nil ?_
 rintro _ ⟨s,rfl⟩
 have k2:=Fut.cell HC.out.2.2.2.2.2.2.2.1 s
 have m2:=Fut.cell HC.out.2.2.2.2.2.2.2.2 s
 by_cases hz0:Z=0
 ·subst hz0
  go_wp2_with (go_at_call 198
               refine (UG A1 np c1 p.key B1 nq d1 q.key _ HC.out.2.2.2.1 HC.out.2.2.2.2.1 (HC.out.2.1.grown (gro HC.out.2.2.2.2.2.2.1 s.below)) (HC.out.2.2.1.grown (gro HC.out.2.2.2.2.2.2.1 s.below)) (by omega) (by omega)).mono ?_
               rintro e w5 ⟨rfl,hb5⟩
               have H5:=hid hb5
               clear hb5)
  go_ret
  exact⟨by rw[HC.out.2.2.2.2.2.1];simp,gro (gro HC.out.2.2.2.2.2.2.1 s.below) H5.out⟩
 ·go_wp2_with fail
  go_ret
  exact⟨by rw[HC.out.2.2.2.2.2.1,if_pos hz0];rfl,gro HC.out.2.2.2.2.2.2.1 s.below⟩
theorem Qcg (x:Int)(h1:0≤x)(h2:x<256):wrap64 x=x:=X1 x (by omega) (by omega)
theorem Yv (d:List UInt8)(i:Nat)(hd:d.length=32)(hi:i<64)(w:World):Calls Tryz.prog 213 #[dg d,.int .i64 i] w fun e w'=>e= .returned (.int .i64 (Dg.digit d i))∧Below w.heap.size w w':=by
 have hb:Blk (w.alloc (.cells (d.map b8).toArray 40)) w.heap.size 40 (d.map b8):=Blk.new w _ _
 obtain⟨x,hx⟩:∃ x,x=d.getD (i / 2) 0:=⟨_,rfl⟩
 have c0:(w.alloc (.cells (d.map b8).toArray 40)).cell? ⟨w.heap.size,i / 2,none⟩=some (b8 x):=by
  rw[hb.cell,List.getElem?_map,List.getElem?_eq_getElem (show i / 2<d.length by omega),hx,List.getD_eq_getElem?_getD,List.getElem?_eq_getElem (show i / 2<d.length by omega)];rfl
 have hdg:Dg.digit d i=x.toNat / 2^(4-i % 2*4) % 16:=by rw[hx];rfl
 have hxl:=x.toNat_lt
 have HB:=hid (Qa c0 (Qa (Qb w (.cells (d.map b8).toArray 40)) (Qa hdg hxl)))
 clear c0 hb hdg hx hxl
 obtain⟨q,hq⟩:∃ q,q=i / 2:=⟨_,rfl⟩
 have hqi:(i:Int) / 2=(q:Int):=by omega
 have hq32:q<32:=by omega
 rw[← hq] at HB
 go_enter Tryz.func213,Tryz.ntmps213
 go_upto_region 1 with fail
 refine Qe (fun w'=>w'.cell? ⟨w.heap.size,q,none⟩=some (b8 x)∧Below w.heap.size w w') ⟨HB.out.1,HB.out.2.1⟩ ?_
 rintro w1 ⟨c1,hb1⟩
 have HB1:=hid hb1
 have HD:=hid (Qa HB.out.2.2.1 HB.out.2.2.2)
 clear hb1 HB hq
 have hpar:i % 2=0∨i % 2=1:=by omega
 rcases hpar with h0|h0
 ·have h1:(i:Int) % 2=0:=by omega
  have hv:(n8 x).tdiv 16 % 256=((Dg.digit d i:Nat):Int):=by
   have e:=HD.out.1;have hl:=HD.out.2
   rw[h0] at e
   rw[Int.tdiv_eq_ediv_of_nonneg (Xw x),e]
   unfold n8
   have:x.toNat / 2^(4-0*4) % 16=x.toNat / 16:=by show x.toNat / 16 % 16=_;omega
   rw[this];omega
  have HV:=hid hv
  clear hv h0
  go_wp2_with fail
  go_ret
  exact⟨by rw[← HV.out];rfl,HB1.out⟩
 ·have h1:(i:Int) % 2=1:=by omega
  have hv:wrap64 (n8 x % 16)=((Dg.digit d i:Nat):Int):=by
   have e:=HD.out.1;have hl:=HD.out.2
   rw[h0] at e
   rw[Qcg _ (by unfold n8;omega) (by unfold n8;omega),e]
   unfold n8
   have:x.toNat / 2^(4-1*4) % 16=x.toNat % 16:=by show x.toNat / 1 % 16=_;omega
   rw[this];omega
  have HV:=hid hv
  clear hv h0
  go_wp2_with fail
  go_ret
  exact⟨by rw[← HV.out];rfl,HB1.out⟩
theorem Ve:(Tryz.prog.info? 225).map (fun i=>(i.zero,i.size,i.bytes))=some (some (.agg (List.replicate 32 (Value.int .u8 0)++[Value.slice none 0 0,Value.slice none 0 0]).toArray),34,80):=by kernel_rfl
theorem Ju {w:World}{n:Nat}{A:Option Addr}{L:List (List Value)}{m:List Pr}(h2:n≤32)(hA:Rd w A L.flatten)(hP:Xs w n L m)(j:Nat)(hj:j<m.length):∃ g o x,A=some ⟨g,o,none⟩∧w.rangeAt g (o+j*34) x∧x.length=34∧(∀ v∈x,v.oneCell'=true)∧ZN w n x m[j]:=by
 have hL:=hP.len
 have hjl:j<L.length:=by omega
 have h34:=hP.all34 h2
 obtain⟨g,o,rfl,hr⟩:=hA (by
  intro e
  have:=Qk 34 _ h34
  rw[e] at this
  simp at this;omega)
 have hp:=Qt hr h34 j hjl
 have hi:=hP.at_ j L[j] m[j] (by simp[hjl]) (by simp[hj])
 exact⟨g,o,L[j],rfl,hp,hi.len h2,hi.oc,hi⟩
structure Itr (B n:Nat) (w0 w:World) (A:Option Addr) (k c:Nat) (m:List Pr):Prop where
 ex:∃ L,w.ownsRow B 225 34 (.slice A k c) k L.flatten∧Xs w n L m
 len:m.length=k
 bl:Below B w0 w
theorem Itr.start (n:Nat)(w:World):Itr w.heap.size n w w none 0 0 []:=⟨⟨[],World.ownsRow_nil _ _ _ _,Xs.nil _ _⟩,rfl,Below.refl _ _⟩
theorem Itr.grown {B n:Nat}{w0 w w':World}{A:Option Addr}{k c:Nat}{m:List Pr}(h:Itr B n w0 w A k c m)(hB:B≤w.heap.size)(hb:Below w.heap.size w w'):Itr B n w0 w' A k c m:=by
 obtain⟨⟨L,h1,h2⟩,h3,h4⟩:=h
 exact⟨⟨L,Qg h1 hb,h2.grown hb⟩,h3,h4.trans (hb.mono hB)⟩
theorem Qaz {ops:Array Oper}{rest:List Oper}{o:Oper}{a:Act}{w w0:World}{Q:Exit→Act→World→Prop}(s x:Operand){B n k c:Nat}{A:Option Addr}{m:List Pr}(h2:n≤32)(hown:Itr B n w0 w A k c m)(hB:B≤w.heap.size)(y:List Value)(p:Pr)(hy:ZN w n y p)(hk:k<1048576)
 (hgd:o.guard=none) (ho:o.op= .call {callee:= .builtin .append,args:= #[s,x],argTypes:= #[120,120]}) (hs:a.eval s= .slice A k c) (hx:a.eval x= .slice (some ⟨w.heap.size,0,none⟩) 1 1)
 (h:∀ A' c' w',Itr B n w0 w' A' (k+1) c' (m++[p])→But 225 (w.alloc (.cells y.toArray 225)) w'→wpList Tryz.prog ops Q rest (a.put o.dst (.slice A' (k+1) c')) w'):wpList Tryz.prog ops Q (o :: rest) a (w.alloc (.cells y.toArray 225)):=by
 obtain⟨⟨L,h1,h3⟩,h4,h5⟩:=hown
 have hy34:=hy.len h2
 have hb:=Qb w (.cells y.toArray 225)
 refine Q1 s x 120 Tryz.underlying120 Ve rfl (by decide) (Qg h1 hb) 1 1 (news:=y) (by omega) (Rd.of _ (Blk.new w _ y).whole) hy.oc (by unfold maxLen;omega) (by omega) (Nat.le_trans hB hb.size) hgd ho hs hx ?_
 intro v' w' g1 g2 _ _
 obtain⟨A',c',rfl,_,_⟩:=QC g1
 have hbut:=But.append (Qg h1 hb) g2
 have hpure:=hbut.pure (by decide)
 refine h A' c' w' ⟨⟨L++[y],by rw[List.flatten_append];simpa using g1,?_⟩,by simp[h4],QB (Qg h1 hb) (h5.trans (hb.mono hB)) (Nat.le_trans hB hb.size) g2⟩ hbut
 exact ((h3.grown hb).append (Xs.one (hy.grown hb))).stay hpure
theorem Itr.rd {B n:Nat}{w0 w:World}{A:Option Addr}{k c:Nat}{m:List Pr}(h:Itr B n w0 w A k c m):∃ L,Rd w A L.flatten∧Xs w n L m∧k≤c:=by
 obtain⟨⟨L,h1,h2⟩,h3,h4⟩:=h
 exact⟨L,(QU h1).1,h2,(QU h1).2⟩
def Zw (w:World)(n:Nat)(A:Option Addr)(k c:Nat)(m:List Pr):Prop:=m.length=k∧k≤c∧∃ L,Rd w A L.flatten∧Xs w n L m
theorem Itr.sl {B n:Nat}{w0 w:World}{A:Option Addr}{k c:Nat}{m:List Pr}(h:Itr B n w0 w A k c m):Zw w n A k c m:=by
 obtain⟨L,h1,h2,h3⟩:=h.rd
 exact⟨h.len,h3,L,h1,h2⟩
theorem Zw.grown {w w':World}{n:Nat}{A:Option Addr}{k c:Nat}{m:List Pr}(h:Zw w n A k c m)(hb:Below w.heap.size w w'):Zw w' n A k c m:=by
 obtain⟨h1,h2,L,h3,h4⟩:=h
 exact⟨h1,h2,L,h3.grown hb,h4.grown hb⟩
theorem Qeb (key:List UInt8)(m:List Pr)(j:Nat)(hj:j<m.length):Hm.del key (m.take (j+1))=if m[j].key=key then Hm.del key (m.take j) else Hm.del key (m.take j)++[m[j]]:=by
 unfold Hm.del
 rw[List.take_succ_eq_append_getElem hj,List.filter_append]
 by_cases h:m[j].key=key
 ·simp[h]
 ·simp[h]
theorem WT (n t i:Nat)(m:List Pr)(j:Nat)(hj:j<m.length):Hm.child n t i (m.take (j+1))=if Hm.dig n t m[j]=i then Hm.child n t i (m.take j)++[m[j]] else Hm.child n t i (m.take j):=by
 unfold Hm.child
 rw[List.take_succ_eq_append_getElem hj,List.filter_append]
 by_cases h:Hm.dig n t m[j]=i
 ·simp[h]
 ·simp[h]
theorem UH (n:Nat)(h2:n≤32)(A:Option Addr)(k c:Nat)(m:List Pr)(B:Option Addr)(kn kc:Nat)(key:List UInt8)(w:World)(hm:Zw w n A k c m)(hkn:key.length=kn)(hB:Rd w B (key.map b8))(hk:k<1048576)(hkn2:kn<1048576)(hsz:∀ p∈m,p.key.length<1048576):
 Calls Tryz.prog 104 #[.slice A k c,.slice B kn kc] w fun e w'=>∃ A' k' c' b,e= .returned (.tuple #[.slice A' k' c',.bool b])∧Below w.heap.size w w'∧Zw w' n A' k' c' (Hm.del key m):=by
 obtain⟨hmk,hkc,L,hA,hL⟩:=hm
 have HA:=hid (Qa hA (Qa hL (Qa hkn (Qa hB (Qa hsz hmk)))))
 clear hA hL hkn hB hsz
 go_enter Tryz.func104,Tryz.ntmps104
 go_wp2_with fail
 go_loopg [6,11] k (fun g s3 i wr=>∃ (j:Nat) (A':Option Addr) (c' k':Nat),j+g=k∧k'≤j∧i= .int .i64 j∧s3= .slice A' k' c'∧Itr w.heap.size n w wr A' k' c' (Hm.del key (m.take j)))
 case atStart=>exact⟨0,none,0,0,by omega,Nat.le_refl _,rfl,rfl,Itr.start n w⟩
 case round=>
  obtain⟨j,A',c',k',hj,hkj,rfl,rfl,hi⟩:=hrel
  have HR:=hid hi
  clear hi
  by_cases hlt:j<k
  ·have hjm:j<m.length:=by omega
   have hdt:=Qeb key m j hjm
   have hpsz:=HA.out.2.2.2.2.1 m[j] (List.getElem_mem hjm)
   obtain⟨g,o,x,rfl,hp,hx34,hxo,hx⟩:=Ju h2 HA.out.1 HA.out.2.1 j hjm
   obtain⟨p,hpe⟩:∃ p,p=m[j]:=⟨_,rfl⟩
   rw[← hpe] at hx hdt hpsz
   have hlb:=Qo hp (by omega)
   have hp2:=Qh hp HR.out.bl hlb
   obtain⟨A1,c1,A2,c2,-,k1,-,r1,-⟩:=J3 h2 hx (Blk.new wr 225 x)
   have hp9:=(Blk.new wr 225 x).whole
   have hb1:=Qb wr (.cells x.toArray 225)
   obtain⟨np,hnp⟩:∃ np,p.key.length=np:=⟨_,rfl⟩
   rw[hnp] at k1 hpsz
   have HX:=hid (Qa hx (Qa hdt (Qa r1 (Qa hnp (Qa hb1 hp9)))))
   clear hx hdt r1 hnp hb1 hp9 hp hlb hpe
   by_cases heq:p.key=key
   ·go_wp2_with (first
     |((with_reducible refine Qf 225 (.tmp 13) g (o+j*34) x 34 _ hx34 hp2 Tryz.underlying225 rfl (by kernel_rfl) ?_ ?_ ?_ ?_);rfl;rfl;rfl)
     |((with_reducible refine Qw 225 (.tmp 8) (.tmp 14) _ _ x 34 hx34 ?_ (by kernel_rfl) hxo ?_ ?_ ?_ ?_ ?_);rfl;rfl;rfl;rfl;rfl)
     |(go_at_call 36
       refine (Yu A1 np c1 p.key B kn kc key _ HX.out.2.2.2.1 HA.out.2.2.1 (HX.out.2.2.1.grown (HR.out.bl.trans (HX.out.2.2.2.2.1.mono HR.out.bl.size))) (HA.out.2.2.2.1.grown (HR.out.bl.trans (HX.out.2.2.2.2.1.mono HR.out.bl.size))) (by omega) (by omega)).mono ?_
       rintro e w5 ⟨rfl,hb5⟩
       rw[show (p.key == key)=true from by simpa using heq]
       have H5:=hid hb5
       clear hb5))
    go_roundg (gk-1)
    case measure=>omega
    case rel=>exact⟨j+1,A',c',k',by omega,by omega,by go_num,rfl,by rw[HX.out.2.1,if_pos heq];exact (HR.out.grown HR.out.bl.size HX.out.2.2.2.2.1).grown (gro HR.out.bl HX.out.2.2.2.2.1).size H5.out⟩
   ·go_wp2_with (first
     |((with_reducible refine Qf 225 (.tmp 13) g (o+j*34) x 34 _ hx34 hp2 Tryz.underlying225 rfl (by kernel_rfl) ?_ ?_ ?_ ?_);rfl;rfl;rfl)
     |((with_reducible refine Qw 225 (.tmp 8) (.tmp 14) _ _ x 34 hx34 ?_ (by kernel_rfl) hxo ?_ ?_ ?_ ?_ ?_);rfl;rfl;rfl;rfl;rfl)
     |(go_at_call 36
       refine (Yu A1 np c1 p.key B kn kc key _ HX.out.2.2.2.1 HA.out.2.2.1 (HX.out.2.2.1.grown (HR.out.bl.trans (HX.out.2.2.2.2.1.mono HR.out.bl.size))) (HA.out.2.2.2.1.grown (HR.out.bl.trans (HX.out.2.2.2.2.1.mono HR.out.bl.size))) (by omega) (by omega)).mono ?_
       rintro e w5 ⟨rfl,hb5⟩
       rw[show (p.key == key)=false from by simpa using heq]
       have hp5:=Qm HX.out.2.2.2.2.2 hb5
       have hbs5:=(gro (gro HR.out.bl HX.out.2.2.2.2.1) hb5).size
       have hsl:∀ y∈[x],y.length=34:=(fun y hy=>by rw[List.mem_singleton] at hy;subst hy;exact hx34)
       have H5:=hid (Qa ((HR.out.grown HR.out.bl.size HX.out.2.2.2.2.1).grown (gro HR.out.bl HX.out.2.2.2.2.1).size hb5) (HX.out.1.grown (gro (gro HR.out.bl HX.out.2.2.2.2.1) hb5)))
       clear hb5)
     |((with_reducible refine Qf 225 (.tmp 8) wr.heap.size 0 x 34 _ hx34 hp5 Tryz.underlying225 rfl (by kernel_rfl) ?_ ?_ ?_ ?_);rfl;rfl;rfl)
     |((with_reducible refine QY 120 225 1 #[(0,.tmp 22)] [x] 34 (by decide) hsl rfl (by decide) (by decide) Tryz.underlying120 (by kernel_rfl) ?_ ?_ ?_ ?_);rfl;rfl;rfl;rw[List.flatten_singleton])
     |((with_reducible refine Qaz (.tmp 21) (.tmp 23) h2 H5.out.1 hbs5 x p H5.out.2 (by omega) ?_ ?_ ?_ ?_ ?_);rfl;rfl;rfl;rfl
       intro A9 c9 w9 hn1 _
       have H9:=hid hn1
       clear hn1))
    go_roundg (gk-1)
    case measure=>omega
    case rel=>exact⟨j+1,A9,c9,k'+1,by omega,by omega,by go_num,rfl,by rw[HX.out.2.1,if_neg heq];exact H9.out⟩
  ·obtain rfl:j=k:=by omega
   have hfin:=HR.out
   rw[List.take_of_length_le (by omega)] at hfin
   have HF:=hid hfin
   clear hfin
   go_wp2_with fail
   go_ret2
   exact⟨A',k',c',_,rfl,HF.out.bl,HF.out.sl⟩
theorem Itr.new {B n:Nat}{w0 w:World}{A:Option Addr}{k c:Nat}{m:List Pr}(h:Itr B n w0 w A k c m):∀ a,A=some a→B≤a.block:=by
 obtain⟨⟨L,h1,h2⟩,h3,h4⟩:=h
 rintro a rfl
 exact (h1.lt a.block rfl).1
theorem WU (n:Nat)(h2:n≤32)(A:Option Addr)(k c:Nat)(m:List Pr)(t i:Nat)(w:World)(hm:Zw w n A k c m)(hk:k<1048576)(ht:t<64):
 Calls Tryz.prog 195 #[.slice A k c,.int .i64 t,.int .i64 i] w fun e w'=>∃ A' k' c',e= .returned (.slice A' k' c')∧Below w.heap.size w w'∧Zw w' n A' k' c' (Hm.child n t i m)∧∀ a,A'=some a→w.heap.size≤a.block:=by
 obtain⟨hmk,hkc,L,hA,hL⟩:=hm
 have HA:=hid (Qa hA (Qa hL hmk))
 clear hA hL
 go_enter Tryz.func195,Tryz.ntmps195
 go_wp2_with fail
 go_loopg [7,12] k (fun g s3 i' wr=>∃ (j:Nat) (A':Option Addr) (c' k':Nat),j+g=k∧k'≤j∧i'= .int .i64 j∧s3= .slice A' k' c'∧Itr w.heap.size n w wr A' k' c' (Hm.child n t i (m.take j)))
 case atStart=>exact⟨0,none,0,0,by omega,Nat.le_refl _,rfl,rfl,Itr.start n w⟩
 case round=>
  obtain⟨j,A',c',k',hj,hkj,rfl,rfl,hi⟩:=hrel
  have HR:=hid hi
  clear hi
  by_cases hlt:j<k
  ·have hjm:j<m.length:=by omega
   have hdt:=WT n t i m j hjm
   obtain⟨g,o,x,rfl,hp,hx34,hxo,hx⟩:=Ju h2 HA.out.1 HA.out.2.1 j hjm
   obtain⟨p,hpe⟩:∃ p,p=m[j]:=⟨_,rfl⟩
   rw[← hpe] at hx hdt
   have hlb:=Qo hp (by omega)
   have hp2:=Qh hp HR.out.bl hlb
   obtain⟨A1,c1,A2,c2,hd0,-,-,-,-⟩:=J3 h2 hx (Blk.new wr 225 x)
   obtain⟨D,hD⟩:∃ D,D=Dg.key n p.key:=⟨_,rfl⟩
   have hDl:D.length=32:=by rw[hD];exact XW n h2 _
   have hDm:(D.map b8).length=32:=by rw[List.length_map,hDl]
   obtain⟨z,hz⟩:∃ z,z=Dg.digit D t:=⟨_,rfl⟩
   have hzd:Hm.dig n t p=z:=by rw[hz,hD];rfl
   rw[← hD] at hd0
   rw[hzd] at hdt
   have hp9:=(Blk.new wr 225 x).whole
   have hb1:=Qb wr (.cells x.toArray 225)
   have HX:=hid (Qa hx (Qa hdt (Qa hz (Qa hb1 hp9))))
   clear hx hdt hb1 hp9 hp hlb hpe hD hzd hz
   by_cases heq:z=i
   ·have hze:(z:Int)=(i:Int):=by omega
    go_wp2_with (first
     |((with_reducible refine Qf 225 (.tmp 14) g (o+j*34) x 34 _ hx34 hp2 Tryz.underlying225 rfl (by kernel_rfl) ?_ ?_ ?_ ?_);rfl;rfl;rfl)
     |((with_reducible refine Qw 225 (.tmp 9) (.tmp 15) _ _ x 34 hx34 ?_ (by kernel_rfl) hxo ?_ ?_ ?_ ?_ ?_);rfl;rfl;rfl;rfl;rfl)
     |((with_reducible refine Qf 40 (.tmp 16) wr.heap.size 0 (D.map b8) 32 _ hDm hd0 Tryz.underlying40 rfl (by kernel_rfl) ?_ ?_ ?_ ?_);rfl;rfl;rfl)
     |(go_at_call 213
       refine (Yv D t hDl ht _).mono ?_
       rintro e w5 ⟨rfl,hb5⟩
       rw[← HX.out.2.2.1]
       have hp5:=Qm HX.out.2.2.2.2 hb5
       have hbs5:=(gro (gro HR.out.bl HX.out.2.2.2.1) hb5).size
       have hsl:∀ y∈[x],y.length=34:=(fun y hy=>by rw[List.mem_singleton] at hy;subst hy;exact hx34)
       have H5:=hid (Qa ((HR.out.grown HR.out.bl.size HX.out.2.2.2.1).grown (gro HR.out.bl HX.out.2.2.2.1).size hb5) (HX.out.1.grown (gro (gro HR.out.bl HX.out.2.2.2.1) hb5)))
       clear hb5)
     |((with_reducible refine Qf 225 (.tmp 9) wr.heap.size 0 x 34 _ hx34 hp5 Tryz.underlying225 rfl (by kernel_rfl) ?_ ?_ ?_ ?_);rfl;rfl;rfl)
     |((with_reducible refine QY 120 225 1 #[(0,.tmp 23)] [x] 34 (by decide) hsl rfl (by decide) (by decide) Tryz.underlying120 (by kernel_rfl) ?_ ?_ ?_ ?_);rfl;rfl;rfl;rw[List.flatten_singleton])
     |((with_reducible refine Qaz (.tmp 22) (.tmp 24) h2 H5.out.1 hbs5 x p H5.out.2 (by omega) ?_ ?_ ?_ ?_ ?_);rfl;rfl;rfl;rfl
       intro A9 c9 w9 hn1 _
       have H9:=hid hn1
       clear hn1))
    go_roundg (gk-1)
    case measure=>omega
    case rel=>exact⟨j+1,A9,c9,k'+1,by omega,by omega,by go_num,rfl,by rw[HX.out.2.1,if_pos heq];exact H9.out⟩
   ·have hze:¬(z:Int)=(i:Int):=by omega
    go_wp2_with (first
     |((with_reducible refine Qf 225 (.tmp 14) g (o+j*34) x 34 _ hx34 hp2 Tryz.underlying225 rfl (by kernel_rfl) ?_ ?_ ?_ ?_);rfl;rfl;rfl)
     |((with_reducible refine Qw 225 (.tmp 9) (.tmp 15) _ _ x 34 hx34 ?_ (by kernel_rfl) hxo ?_ ?_ ?_ ?_ ?_);rfl;rfl;rfl;rfl;rfl)
     |((with_reducible refine Qf 40 (.tmp 16) wr.heap.size 0 (D.map b8) 32 _ hDm hd0 Tryz.underlying40 rfl (by kernel_rfl) ?_ ?_ ?_ ?_);rfl;rfl;rfl)
     |(go_at_call 213
       refine (Yv D t hDl ht _).mono ?_
       rintro e w5 ⟨rfl,hb5⟩
       rw[← HX.out.2.2.1]
       have H5:=hid hb5
       clear hb5))
    go_roundg (gk-1)
    case measure=>omega
    case rel=>exact⟨j+1,A',c',k',by omega,by omega,by go_num,rfl,by rw[HX.out.2.1,if_neg heq];exact (HR.out.grown HR.out.bl.size HX.out.2.2.2.1).grown (gro HR.out.bl HX.out.2.2.2.1).size H5.out⟩
  ·obtain rfl:j=k:=by omega
   have hfin:=HR.out
   rw[List.take_of_length_le (by have:=HA.out.2.2;omega)] at hfin
   have HF:=hid hfin
   clear hfin
   go_wp2_with fail
   go_ret
   exact⟨A',k',c',rfl,HF.out.bl,HF.out.sl,HF.out.new⟩
theorem QO.but {w w':World}(h:But 166 w w'){x:List Value}{p:Pr}(hp:QO w x p):QO w' x p:=by
 obtain⟨A1,c1,A2,c2,e,h1,h2,h3,h4,h5,h6⟩:=hp
 exact⟨A1,c1,A2,c2,e,QQ.rdb h h1 h5 (by decide),QQ.rdb h h2 h6 (by decide),h3,h4,QQ.tyb h h5 (by decide),QQ.tyb h h6 (by decide)⟩
theorem Ql.but {w w':World}(h:But 166 w w'){L:List (List Value)}{m:List Pr}(hp:Ql w L m):Ql w' L m:=⟨hp.len,fun i x p h1 h2=>(hp.at_ i x p h1 h2).but h⟩
theorem WV (n:Nat)(h2:n≤32)(A:Option Addr)(k c:Nat)(m:List Pr)(w:World)(hm:Zw w n A k c m)(hk:k<1048576):
 Calls Tryz.prog 152 #[.slice A k c] w fun e w'=>∃ A' c' L',e= .returned (.slice A' k c')∧Below w.heap.size w w'∧Rd w' A' L'.flatten∧Ql w' L' m:=by
 obtain⟨hmk,hkc,L,hA,hL⟩:=hm
 have HA:=hid (Qa hA (Qa hL hmk))
 clear hA hL
 go_enter Tryz.func152,Tryz.ntmps152
 go_wp2_with fail
 go_loopg [3,8] k (fun g s3 i' wr=>∃ (j:Nat) (A':Option Addr) (c':Nat) (L':List (List Value)),j+g=k∧i'= .int .i64 j∧s3= .slice A' j c'∧wr.ownsRow w.heap.size 166 2 (.slice A' j c') j L'.flatten∧Ql wr L' (m.take j)∧Below w.heap.size w wr)
 case atStart=>exact⟨0,none,0,[],by omega,rfl,rfl,World.ownsRow_nil _ _ _ _,⟨rfl,fun i x p h=>by simp at h⟩,Below.refl _ _⟩
 case round=>
  obtain⟨j,A',c',L',hj,rfl,rfl,ho,hP,hbl⟩:=hrel
  have HR:=hid (Qa ho (Qa hP hbl))
  clear ho hP hbl
  by_cases hlt:j<k
  ·have hjm:j<m.length:=by omega
   have hdt:m.take (j+1)=m.take j++[m[j]]:=List.take_succ_eq_append_getElem hjm
   obtain⟨g,o,x,rfl,hp,hx34,hxo,hx⟩:=Ju h2 HA.out.1 HA.out.2.1 j hjm
   obtain⟨p,hpe⟩:∃ p,p=m[j]:=⟨_,rfl⟩
   rw[← hpe] at hx hdt
   have hlb:=Qo hp (by omega)
   have hp2:=Qh hp HR.out.2.2 hlb
   obtain⟨y,rfl,hy⟩:=hx
   have hyl:y.length=2:=by obtain⟨A1,c1,A2,c2,e,-⟩:=hy;rw[e];rfl
   have hyo:∀ v∈y,v.oneCell'=true:=fun v hv=>hxo v (List.mem_append.2 (.inr hv))
   have hbk:=Blk.new wr 225 ((Dg.key n p.key).map b8++y)
   have hb1:=Qb wr (.cells ((Dg.key n p.key).map b8++y).toArray 225)
   have hr2:=(Q8 hbk.whole).2
   rw[show ((Dg.key n p.key).map b8).length=32 from by rw[List.length_map];exact XW n h2 _] at hr2
   obtain⟨x,hxe⟩:∃ x,x=(Dg.key n p.key).map b8++y:=⟨_,rfl⟩
   rw[← hxe] at hx34 hxo hp2 hbk hb1 hr2
   have hb2:=Qb (wr.alloc (.cells x.toArray 225)) (.cells [y].flatten.toArray 166)
   have hr8:=Rd.of _ (Blk.new (wr.alloc (.cells x.toArray 225)) 166 [y].flatten).whole
   have hsl:∀ z∈[y],z.length=2:=fun z hz=>by rw[List.mem_singleton] at hz;subst hz;exact hyl
   have hsl2:[y].flatten.length=1*2:=by simp[hyl]
   have hso:∀ v∈[y].flatten,v.oneCell'=true:=fun v hv=>hyo v (by simpa using hv)
   have h63:j+1≤maxLen:=by simp only[maxLen];omega
   have hby:(j+1)*48≤140737488355328:=by omega
   have hbw:=gro hb1 hb2
   have hbs8:=(gro HR.out.2.2 hbw).size
   have HX:=hid (Qa hy (Qa hdt (Qa hbw (Qa (Qg HR.out.1 hbw) hr8))))
   clear hy hdt hb1 hp hlb hpe hbk hb2 hr8 hbw hxe hyo
   go_wp2_with (first
    |((with_reducible refine Qf 225 (.tmp 10) g (o+j*34) x 34 _ hx34 hp2 Tryz.underlying225 rfl (by kernel_rfl) ?_ ?_ ?_ ?_);rfl;rfl;rfl)
    |((with_reducible refine Qw 225 (.tmp 5) (.tmp 11) _ _ x 34 hx34 ?_ (by kernel_rfl) hxo ?_ ?_ ?_ ?_ ?_);rfl;rfl;rfl;rfl;rfl)
    |((with_reducible refine Qf 166 (.tmp 13) wr.heap.size 32 y 2 _ hyl hr2 Tryz.underlying166 rfl (by kernel_rfl) ?_ ?_ ?_ ?_);rfl;rfl;rfl)
    |((with_reducible refine QY 110 166 1 #[(0,.tmp 14)] [y] 2 (by decide) hsl rfl (by decide) (by decide) Tryz.underlying110 (by kernel_rfl) ?_ ?_ ?_ ?_);rfl;rfl;rfl)
    |((with_reducible refine Q1 (.tmp 12) (.tmp 15) 110 Tryz.underlying110 YS rfl (by decide) HX.out.2.2.2.1 1 1 hsl2 HX.out.2.2.2.2 hso h63 hby hbs8 ?_ ?_ ?_ ?_ ?_);rfl;rfl;rfl;rfl
      intro v9 w9 hn1 hn2 hn3 hn4
      obtain⟨A9,c9,rfl,hr9,hc9⟩:=QC hn1
      have H9:=hid (Qa hn1 (Qa (But.append HX.out.2.2.2.1 hn2) (QB HX.out.2.2.2.1 (gro HR.out.2.2 HX.out.2.2.1) hbs8 hn2)))
      clear hn1 hn2 hn3 hn4 hr9 hc9))
   go_roundg (gk-1)
   case measure=>omega
   case rel=>
    refine⟨j+1,A9,c9,L'++[y],by omega,by go_num,rfl,by rw[List.flatten_append];exact H9.out.1,?_,H9.out.2.2⟩
    rw[HX.out.2.1]
    exact ((HR.out.2.1.grown HX.out.2.2.1).append (Ql.one (HX.out.1.grown (gro HR.out.2.2 HX.out.2.2.1)))).but H9.out.2.1
  ·obtain rfl:j=k:=by omega
   have hel:=HR.out.2.1
   rw[List.take_of_length_le (by have:=HA.out.2.2;omega)] at hel
   obtain⟨hr9,-⟩:=QU HR.out.1
   have HF:=hid (Qa hel hr9)
   clear hel hr9
   go_wp2_with fail
   go_ret
   exact⟨A',c',L',rfl,HR.out.2.2,HF.out.2,HF.out.1⟩
theorem Hm.cmp_le {n:Nat}{p q:Pr}(h:Hm.cmp n p q<0):Lx.cmp (Dg.key n p.key) (Dg.key n q.key)≤0:=by
 unfold Hm.cmp at h
 split at h
 ·omega
 ·rename_i hh;simp at hh;omega
theorem Hm.single_ends {n:Nat}{m:List Pr}(hs:Hm.Srt n m)(h:0<m.length):Hm.single n m=decide (Dg.key n (m[0]).key=Dg.key n (m[m.length-1]).key):=by
 have hp:=List.pairwise_iff_getElem.1 hs
 by_cases he:Dg.key n (m[0]).key=Dg.key n (m[m.length-1]).key
 ·rw[decide_eq_true he,Hm.single_iff]
  have key:∀ p∈m,Dg.key n p.key=Dg.key n (m[0]).key:=by
   intro p hpm
   obtain⟨i,hi,rfl⟩:=List.getElem_of_mem hpm
   by_cases h0:i=0
   ·subst h0;rfl
   by_cases h1:i=m.length-1
   ·subst h1;exact he.symm
   have a:=Hm.cmp_le (hp 0 i h hi (by omega))
   have b:=Hm.cmp_le (hp i (m.length-1) hi (by omega) (by omega))
   rw[← he,Lx.cmp_neg] at b
   exact (Lx.cmp_eq (by omega)).symm
  intro p hp1 q hq1
  rw[key p hp1,key q hq1]
 ·rw[decide_eq_false he]
  apply Bool.eq_false_iff.2
  intro hh
  exact he (Hm.single_iff.1 hh _ (List.getElem_mem _) _ (List.getElem_mem _))
theorem KS (n:Nat)(h2:n≤32)(A:Option Addr)(k c:Nat)(m:List Pr)(w:World)(hm:Zw w n A k c m)(hs:Hm.Srt n m)(hk:k<1048576):
 Calls Tryz.prog 150 #[.slice A k c] w fun e w'=>e= .returned (.bool (Hm.single n m))∧Below w.heap.size w w':=by
 obtain⟨hmk,hkc,L,hA,hL⟩:=hm
 rcases k with _|k
 ·obtain rfl:m=[]:=List.length_eq_zero_iff.1 hmk
  clear hA hL
  go_enter Tryz.func150,Tryz.ntmps150
  go_upto_region 1 with fail
  refine Qr (by kernel_rfl) (by kernel_rfl) ?_
  repeat go_big_quiet_step (fail)
  refine wpQuiet_nil ?_
  rintro _ ⟨s,rfl⟩
  go_wp2_with fail
  go_ret
  exact⟨rfl,s.below⟩
 ·have hse:=Hm.single_ends hs (by omega)
  obtain⟨g,o,x,rfl,hp,hx34,-,hx⟩:=Ju h2 hA hL 0 (by omega)
  obtain⟨g',o',x',e,hp',hx34',-,hx'⟩:=Ju h2 hA hL (m.length-1) (by omega)
  cases e
  obtain⟨y,rfl,-⟩:=hx
  obtain⟨y',rfl,-⟩:=hx'
  have r1:=(Q8 hp).1
  have r2:=(Q8 hp').1
  obtain⟨D,hD⟩:∃ D,D=Dg.key n (m[0]).key:=⟨_,rfl⟩
  obtain⟨E,hE⟩:∃ E,E=Dg.key n (m[m.length-1]).key:=⟨_,rfl⟩
  have hDl:D.length=32:=by rw[hD];exact XW n h2 _
  have hEl:E.length=32:=by rw[hE];exact XW n h2 _
  rw[← hD,Nat.zero_mul,Nat.add_zero] at r1
  rw[← hE,show m.length-1=k from by omega] at r2
  rw[← hD,←hE] at hse
  have hDm:(D.map b8).length=32:=by rw[List.length_map,hDl]
  have hEm:(E.map b8).length=32:=by rw[List.length_map,hEl]
  have heq:=JA (P:=Tryz.prog) Tryz.underlying40 Tryz.underlying5 (by kernel_rfl) D E hDl hEl
  have hk1:((k+1:Nat):Int)-1=(k:Int):=by omega
  have hk0:((k:Int)+1 == 0)=false:=by rw[beq_eq_false_iff_ne];omega
  have HS:=hid hse
  clear hse hD hE hp hp' hx34 hx34' hA hL hs
  go_enter Tryz.func150,Tryz.ntmps150
  go_upto_region 1 with fail
  refine Qr (by kernel_rfl) (by kernel_rfl) ?_
  repeat (first
   |(go_big_quiet_want;(with_reducible refine QG 40 (.tmp 9) g o _ 32 _ hDm (QA r1) Tryz.underlying40 rfl (by kernel_rfl) ?_ ?_ ?_);rfl;rfl;simp only[Act.put,List.setIfInBounds_toArray,List.set_cons_zero,List.set_cons_succ];go_big_quiet_on)
   |(go_big_quiet_want;(with_reducible refine QG 40 (.tmp 16) g (o+k*34) _ 32 _ hEm (QA r2) Tryz.underlying40 rfl (by kernel_rfl) ?_ ?_ ?_);rfl;rfl;simp only[Act.put,List.setIfInBounds_toArray,List.set_cons_zero,List.set_cons_succ];go_big_quiet_on)
   |go_big_quiet_step (fail))
  refine wpQuiet_nil ?_
  rintro _ ⟨s,rfl⟩
  go_wp2_with fail
  go_ret
  exact⟨by rw[HS.out];rfl,s.below⟩
end Go.Proofs.YtpnakfeafekneaaGreatDoor
