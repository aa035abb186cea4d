/- Part 19 of this proof. -/
import Derived.Test.YtpnakfeafekneaaGreatDoorG14
import Derived.Test.YtpnakfeafekneaaGreatDoorG18
set_option linter.unusedSimpArgs false
set_option linter.unusedVariables false
set_option maxHeartbeats 8000000
set_option maxRecDepth 100000
namespace Go.Proofs.YtpnakfeafekneaaGreatDoor
open Go.RowKit
namespace Lx
theorem cmpB_self (x:UInt8):cmpB x x=0:=by unfold cmpB;simp
theorem cmpB_eq {x y:UInt8}(h:cmpB x y=0):x=y:=by
 unfold cmpB at h
 split at h
 ·cases h
 ·split at h
  ·cases h
  ·rename_i h1 h2
   exact UInt8.le_antisymm (UInt8.not_lt.1 h2) (UInt8.not_lt.1 h1)
theorem cmpB_neg (x y:UInt8):cmpB x y= -cmpB y x:=by
 unfold cmpB
 by_cases h1:x<y
 ·rw[if_pos h1,if_neg (fun h=>by have:=UInt8.lt_irrefl x;exact this (UInt8.lt_trans h1 h)),if_pos h1]
 ·by_cases h2:y<x
  ·rw[if_neg h1,if_pos h2,if_pos h2];rfl
  ·rw[if_neg h1,if_neg h2,if_neg h2,if_neg h1];rfl
theorem cmpB_lt {x y:UInt8}:cmpB x y<0↔x<y:=by
 unfold cmpB
 by_cases h1:x<y
 ·simp[h1]
 ·by_cases h2:y<x
  ·simp[h1,h2]
  ·simp[h1,h2]
theorem cmp_self:∀ l:List UInt8,cmp l l=0
 |[]=>rfl
 |x :: l=>by rw[cmp,cmpB_self];simp[cmp_self l]
theorem cmp_eq:∀ {a b:List UInt8},cmp a b=0→a=b
 |[],[],_=>rfl
 |[],_ :: _,h=>by simp[cmp] at h
 |_ :: _,[],h=>by simp[cmp] at h
 |x :: a,y :: b,h=>by
  rw[cmp] at h
  split at h
  ·rename_i h1;exact absurd h h1
  ·rename_i h1
   have e1:cmpB x y=0:=by simpa using h1
   rw[cmpB_eq e1,cmp_eq h]
theorem cmp_neg:∀ (a b:List UInt8),cmp a b= -cmp b a
 |[],[]=>rfl
 |[],_ :: _=>rfl
 |_ :: _,[]=>rfl
 |x :: a,y :: b=>by
  rw[cmp,cmp,cmpB_neg x y,cmp_neg a b]
  by_cases h:cmpB y x=0
  ·rw[h];simp
  ·rw[if_pos (by omega),if_pos h]
theorem cmp_trans:∀ {a b c:List UInt8},cmp a b<0→cmp b c<0→cmp a c<0
 |[],[],_,h,_=>by simp[cmp] at h
 |[],_ :: _,[],_,h=>by simp[cmp] at h
 |[],_ :: _,_ :: _,_,_=>by simp[cmp]
 |_ :: _,[],_,h,_=>by simp[cmp] at h
 |_ :: _,_ :: _,[],_,h=>by simp[cmp] at h
 |x :: a,y :: b,z :: c,h1,h2=>by
  rw[cmp] at h1 h2 ⊢
  by_cases e1:cmpB x y=0
  ·have:=cmpB_eq e1;subst this
   rw[e1] at h1
   by_cases e2:cmpB x z=0
   ·rw[e2] at h2 ⊢;simp at h1 h2 ⊢;exact cmp_trans h1 h2
   ·rw[if_pos e2] at h2 ⊢;exact h2
  ·rw[if_pos e1] at h1
   have g1:=cmpB_lt.1 h1
   by_cases e2:cmpB y z=0
   ·have:=cmpB_eq e2;subst this
    rw[if_pos e1];exact h1
   ·rw[if_pos e2] at h2
    have g3:cmpB x z<0:=cmpB_lt.2 (UInt8.lt_trans g1 (cmpB_lt.1 h2))
    rw[if_pos (by omega)];exact g3
end Lx
namespace Hm
def bmf (P:Nat→Bool)(k:Nat):Nat:=(List.range k).foldl (fun a i=>if P i then Nib.add a i else a) 0
theorem bmf_succ (P:Nat→Bool)(k:Nat):bmf P (k+1)=if P k then Nib.add (bmf P k) k else bmf P k:=by
 unfold bmf;rw[List.range_succ,List.foldl_append];rfl
theorem bmf_bit (P:Nat→Bool)(j:Nat):∀ k,(bmf P k).testBit j=(decide (j<k) && P j)
 |0=>by simp[bmf]
 |k+1=>by
  rw[bmf_succ]
  have ih:=bmf_bit P j k
  by_cases hj:j=k
  ·subst hj
   by_cases hP:P j=true
   ·rw[if_pos hP];unfold Nib.add;rw[Nat.testBit_or,ih,Nat.testBit_two_pow];simp[hP]
   ·rw[if_neg hP,ih];simp at hP;simp[hP]
  ·have e:decide (j<k+1)=decide (j<k):=by
    rw[Bool.eq_iff_iff];simp;omega
   rw[e,←ih]
   split
   ·unfold Nib.add;rw[Nat.testBit_or,Nat.testBit_two_pow]
    have:decide (k=j)=false:=by simp;omega
    rw[this,Bool.or_false]
   ·rfl
theorem bmf_lt (P:Nat→Bool):bmf P 16<65536:=by
 have h:∀ k,k≤16→bmf P k<65536:=by
  intro k
  induction k with
  |zero=>intro _;simp[bmf]
  |succ k ih=>
   intro hk
   rw[bmf_succ]
   split
   ·exact Nib.add_lt _ _ (ih (by omega)) (by omega)
   ·exact ih (by omega)
 exact h 16 (Nat.le_refl _)
theorem bmf_has (P:Nat→Bool)(i:Nat)(hi:i<16):Nib.has (bmf P 16) i=P i:=by
 unfold Nib.has;rw[bmf_bit];simp[hi]
theorem bmf_congr {P Q:Nat→Bool}(h:∀ i,i<16→P i=Q i):bmf P 16=bmf Q 16:=by
 apply Nat.eq_of_testBit_eq
 intro i
 rw[bmf_bit,bmf_bit]
 by_cases hi:i<16
 ·rw[h i hi]
 ·simp[hi]
theorem bmf_add (P:Nat→Bool)(d:Nat)(hd:d<16):Nib.add (bmf P 16) d=bmf (fun i=>P i || i == d) 16:=by
 apply Nat.eq_of_testBit_eq
 intro i
 unfold Nib.add
 rw[Nat.testBit_or,bmf_bit,bmf_bit,Nat.testBit_two_pow]
 by_cases hi:i<16
 ·by_cases hid:d=i
  ·subst hid;simp[hd]
  ·have:(i == d)=false:=by simp;omega
   simp[hid,this]
 ·have:d≠i:=by omega
  simp[hi,this]
theorem bmf_del (P:Nat→Bool)(d:Nat)(hd:d<16):Nib.del (bmf P 16) d=bmf (fun i=>P i && !(i == d)) 16:=by
 apply Nat.eq_of_testBit_eq
 intro i
 unfold Nib.del
 have h2:2^d<2^16:=Nat.pow_lt_pow_right (by decide) hd
 rw[Nat.testBit_and,bmf_bit,bmf_bit,show 65535-2^d=2^16-(2^d+1) by omega,Nat.testBit_two_pow_sub_succ h2,Nat.testBit_two_pow]
 by_cases hi:i<16
 ·by_cases hid:d=i
  ·subst hid;simp
  ·have:(i == d)=false:=by simp;omega
   simp[hi,hid,this]
 ·simp[hi]
theorem ite_mod (x:Nat):(if decide (x % 2=1)=true then 1 else 0)=x % 2:=by
 by_cases h:x % 2=1
 ·simp[h]
 ·simp[h];omega
theorem pop_count (m:Nat)(hm:m<65536):Nib.pop m=((List.range 16).filter fun i=>m.testBit i).length:=by
 have a0:m % 256 % 2=m % 2:=by omega
 have a1:m % 256 / 2 % 2=m / 2 % 2:=by omega
 have a2:m % 256 / 4 % 2=m / 4 % 2:=by omega
 have a3:m % 256 / 8 % 2=m / 8 % 2:=by omega
 have a4:m % 256 / 16 % 2=m / 16 % 2:=by omega
 have a5:m % 256 / 32 % 2=m / 32 % 2:=by omega
 have a6:m % 256 / 64 % 2=m / 64 % 2:=by omega
 have a7:m % 256 / 128 % 2=m / 128 % 2:=by omega
 rw[← List.countP_eq_length_filter,show List.range 16=[0,1,2,3,4,5,6,7,8,9,10,11,12,13,14,15] from rfl]
 simp only[List.countP_cons,List.countP_nil,Nat.testBit_eq_decide_div_mod_eq,ite_mod]
 unfold Nib.pop Nib.pop8
 rw[a0,a1,a2,a3,a4,a5,a6,a7]
 clear a0 a1 a2 a3 a4 a5 a6 a7
 simp only[Nat.div_div_eq_div_mul,Nat.reducePow,Nat.reduceMul,Nat.div_one,Nat.zero_add]
 ac_rfl
theorem bmf_pop (P:Nat→Bool):Nib.pop (bmf P 16)=((List.range 16).filter P).length:=by
 rw[pop_count _ (bmf_lt P)]
 congr 1
 apply List.filter_congr
 intro i hi
 rw[bmf_bit];simp at hi;simp[hi]
def lo (P:Nat→Bool)(d:Nat):List Nat:=(List.range d).filter P
def hi (P:Nat→Bool)(d:Nat):List Nat:=((List.range (15-d)).map (d+1+ ·)).filter P
theorem digs_split (P:Nat→Bool)(d:Nat)(hd:d<16):(List.range 16).filter P=lo P d++((if P d then [d] else [])++hi P d):=by
 have e:List.range 16=List.range d++([d]++(List.range (15-d)).map (d+1+ ·)):=by
  rw[← List.append_assoc,←List.range_succ,←List.range_add];congr 1;omega
 rw[e,List.filter_append,List.filter_append]
 unfold lo hi
 congr 2
 by_cases h:P d<;>simp[h]
theorem mem_lo {P:Nat→Bool}{d i:Nat}(h:i∈lo P d):i<d∧P i=true:=by simpa [lo] using h
theorem mem_hi {P:Nat→Bool}{d i:Nat}(h:i∈hi P d):d<i∧P i=true:=by
 unfold hi at h
 rw[List.mem_filter,List.mem_map] at h
 obtain⟨⟨a,_,rfl⟩,h2⟩:=h
 exact⟨by omega,h2⟩
theorem lo_congr {P Q:Nat→Bool}{d:Nat}(h:∀ i,i≠d→P i=Q i):lo P d=lo Q d:=by
 apply List.filter_congr
 intro i hi
 exact h i (by have:=List.mem_range.1 hi;omega)
theorem hi_congr {P Q:Nat→Bool}{d:Nat}(h:∀ i,i≠d→P i=Q i):hi P d=hi Q d:=by
 apply List.filter_congr
 intro i hi
 obtain⟨a,_,rfl⟩:=List.mem_map.1 hi
 exact h _ (by omega)
theorem bmf_rank (P:Nat→Bool)(d:Nat)(hd:d<16):Nib.rank (bmf P 16) d=(lo P d).length:=by
 unfold Nib.rank
 have h:=bmf_lt P
 have hl:bmf P 16 % 2^d<65536:=Nat.lt_of_le_of_lt (Nat.mod_le _ _) h
 rw[pop_count _ hl,digs_split _ d hd]
 have e1:lo (fun i=>(bmf P 16 % 2^d).testBit i) d=lo P d:=by
  apply List.filter_congr
  intro i hi
  have:=List.mem_range.1 hi
  rw[Nat.testBit_mod_two_pow,bmf_bit]
  have h2:i<16:=by omega
  simp[this,h2]
 have e2:hi (fun i=>(bmf P 16 % 2^d).testBit i) d=[]:=by
  unfold hi
  rw[List.filter_eq_nil_iff]
  intro i hi
  obtain⟨a,_,rfl⟩:=List.mem_map.1 hi
  rw[Nat.testBit_mod_two_pow]
  simp
  intro h;omega
 have e3:(bmf P 16 % 2^d).testBit d=false:=by rw[Nat.testBit_mod_two_pow];simp
 rw[e1,e2,e3];simp
theorem bmf_ne {P:Nat→Bool}{i:Nat}(hi:i<16)(h:P i=true):bmf P 16≠0:=by
 intro e
 have:=bmf_has P i hi
 rw[e,h] at this
 simp[Nib.has] at this
theorem digs_le (P:Nat→Bool):((List.range 16).filter P).length≤16:=by
 have:=List.length_filter_le P (List.range 16)
 simpa using this
def cmp (n:Nat)(p q:Pr):Int:=if Lx.cmp (Dg.key n p.key) (Dg.key n q.key)≠0 then Lx.cmp (Dg.key n p.key) (Dg.key n q.key) else Lx.cmp p.key q.key
theorem cmp_of_eq {n:Nat}{p q:Pr}(h:Dg.key n p.key=Dg.key n q.key):cmp n p q=Lx.cmp p.key q.key:=by
 unfold cmp;rw[h,Lx.cmp_self];simp
theorem cmp_key {n:Nat}{p q:Pr}(h:cmp n p q=0):p.key=q.key:=by
 unfold cmp at h
 split at h
 ·rename_i h1;exact absurd h h1
 ·exact Lx.cmp_eq h
theorem cmp_same {n:Nat}{p q:Pr}(h:p.key=q.key):cmp n p q=0:=by unfold cmp;rw[h,Lx.cmp_self,Lx.cmp_self];simp
theorem cmp_neg (n:Nat)(p q:Pr):cmp n p q= -cmp n q p:=by
 unfold cmp
 rw[Lx.cmp_neg (Dg.key n p.key),Lx.cmp_neg p.key]
 by_cases h:Lx.cmp (Dg.key n q.key) (Dg.key n p.key)=0
 ·rw[h];simp
 ·rw[if_pos (by omega),if_pos h]
theorem cmp_trans {n:Nat}{p q r:Pr}(h1:cmp n p q<0)(h2:cmp n q r<0):cmp n p r<0:=by
 unfold cmp at h1 h2 ⊢
 by_cases e1:Lx.cmp (Dg.key n p.key) (Dg.key n q.key)=0
 ·have e1':=Lx.cmp_eq e1
  rw[e1] at h1
  rw[e1']
  by_cases e2:Lx.cmp (Dg.key n q.key) (Dg.key n r.key)=0
  ·rw[e2] at h2 ⊢;simp at h1 h2 ⊢;exact Lx.cmp_trans h1 h2
  ·rw[if_pos e2] at h2 ⊢;exact h2
 ·rw[if_pos e1] at h1
  by_cases e2:Lx.cmp (Dg.key n q.key) (Dg.key n r.key)=0
  ·rw[← Lx.cmp_eq e2,if_pos e1];exact h1
  ·rw[if_pos e2] at h2
   have:=Lx.cmp_trans h1 h2
   rw[if_pos (by omega)];exact this
def Srt (n:Nat)(m:List Pr):Prop:=m.Pairwise fun p q=>cmp n p q<0
def ins (n:Nat)(x:Pr)(m:List Pr):List Pr:=m.filter (fun p=>decide (cmp n p x<0))++x :: m.filter (fun p=>decide (0<cmp n p x))
def del (k:List UInt8)(m:List Pr):List Pr:=m.filter fun p=>!(p.key == k)
def single (n:Nat):List Pr→Bool
 |[]=>true
 |p :: r=>r.all fun q=>Dg.key n q.key == Dg.key n p.key
def dig (n t:Nat)(p:Pr):Nat:=Dg.digit (Dg.key n p.key) t
def child (n t i:Nat)(m:List Pr):List Pr:=m.filter fun p=>dig n t p == i
def has (n t:Nat)(m:List Pr)(i:Nat):Bool:=m.any fun p=>dig n t p == i
def digs (n t:Nat)(m:List Pr):List Nat:=(List.range 16).filter (has n t m)
def bm (n t:Nat)(m:List Pr):Nat:=bmf (has n t m) 16
def node (n:Nat):Nat→Nat→List Pr→List UInt8
 |0,_,m=>Dg.bucket n m
 |f+1,t,m=>if single n m then Dg.bucket n m else Dg.branch n (bm n t m) ((digs n t m).map fun i=>node n f (t+1) (child n t i m))
def root (n:Nat)(m:List Pr):List UInt8:=if m.isEmpty then Dg.noMap n else node n (2*n) 0 m
theorem node_single {n:Nat}{m:List Pr}(h:single n m=true):∀ f t,node n f t m=Dg.bucket n m
 |0,_=>rfl
 |f+1,t=>by rw[node,if_pos h]
theorem dig_lt (n t:Nat)(p:Pr):dig n t p<16:=Dg.digit_lt _ _
theorem single_iff {n:Nat}{m:List Pr}:single n m=true↔∀ p∈m,∀ q∈m,Dg.key n p.key=Dg.key n q.key:=by
 cases m with
 |nil=>simp[single]
 |cons a r=>
  simp only[single,List.all_eq_true,beq_iff_eq]
  constructor
  ·intro h p hp q hq
   have g:∀ p∈a :: r,Dg.key n p.key=Dg.key n a.key:=by
    intro p hp
    rcases List.mem_cons.1 hp with rfl|hp
    ·rfl
    ·exact h p hp
   rw[g p hp,g q hq]
  ·intro h q hq
   exact h q (by simp[hq]) a (by simp)
theorem has_iff {n t:Nat}{m:List Pr}{i:Nat}:has n t m i=true↔∃ p∈m,dig n t p=i:=by simp[has]
theorem mem_digs {n t:Nat}{m:List Pr}{i:Nat}:i∈digs n t m↔∃ p∈m,dig n t p=i:=by
 unfold digs
 rw[List.mem_filter,has_iff,List.mem_range]
 constructor
 ·exact fun h=>h.2
 ·rintro⟨p,hp,rfl⟩;exact⟨dig_lt _ _ _,p,hp,rfl⟩
theorem child_ne {n t:Nat}{m:List Pr}{i:Nat}(h:i∈digs n t m):child n t i m≠[]:=by
 obtain⟨p,hp,hd⟩:=mem_digs.1 h
 intro e
 have:p∈child n t i m:=by simp[child,hp,hd]
 rw[e] at this;cases this
theorem mem_child {n t i:Nat}{m:List Pr}{p:Pr}:p∈child n t i m↔p∈m∧dig n t p=i:=by simp[child]
theorem Srt.filter {n:Nat}{m:List Pr}(h:Srt n m)(f:Pr→Bool):Srt n (m.filter f):=List.Pairwise.filter f h
theorem Srt.child {n t i:Nat}{m:List Pr}(h:Srt n m):Srt n (child n t i m):=h.filter _
theorem filter_sides {n:Nat}{x:Pr}:∀ {m:List Pr},Srt n m→(∀ p∈m,cmp n p x≠0)→m.filter (fun p=>decide (cmp n p x<0))++m.filter (fun p=>decide (0<cmp n p x))=m
 |[],_,_=>rfl
 |p :: r,hs,hn=>by
  have hs':=List.pairwise_cons.1 hs
  have hp:=hn p (by simp)
  rcases Int.lt_or_gt_of_ne hp with h|h
  ·have h2:¬0<cmp n p x:=by omega
   rw[List.filter_cons,List.filter_cons,if_pos (by simpa using h),if_neg (by simpa using h2),List.cons_append,filter_sides hs'.2 (fun q hq=>hn q (by simp[hq]))]
  ·have g:∀ q∈r,0<cmp n q x:=by
    intro q hq
    have h1:cmp n x p<0:=by rw[cmp_neg];omega
    have:=cmp_trans h1 (hs'.1 q hq)
    rw[cmp_neg] at this;omega
   have e1:(p :: r).filter (fun p=>decide (cmp n p x<0))=[]:=by
    rw[List.filter_eq_nil_iff]
    intro q hq
    rcases List.mem_cons.1 hq with rfl|hq
    ·simp;omega
    ·have:=g q hq;simp;omega
   have e2:(p :: r).filter (fun p=>decide (0<cmp n p x))=p :: r:=by
    rw[List.filter_eq_self]
    intro q hq
    rcases List.mem_cons.1 hq with rfl|hq
    ·simpa using h
    ·simpa using g q hq
   rw[e1,e2];rfl
theorem filter_child (n t i:Nat)(m:List Pr)(f:Pr→Bool):child n t i (m.filter f)=(child n t i m).filter f:=by
 unfold child
 rw[List.filter_filter,List.filter_filter]
 apply List.filter_congr
 intro p _
 rw[Bool.and_comm]
theorem child_ins {n t i:Nat}{x:Pr}{m:List Pr}(hs:Srt n m):child n t i (ins n x m)=if dig n t x=i then ins n x (child n t i m) else child n t i m:=by
 unfold ins
 have e:child n t i (m.filter (fun p=>decide (cmp n p x<0))++x :: m.filter (fun p=>decide (0<cmp n p x)))=(child n t i m).filter (fun p=>decide (cmp n p x<0))++((if dig n t x=i then [x] else [])++(child n t i m).filter (fun p=>decide (0<cmp n p x))):=by
  rw[← filter_child,←filter_child]
  unfold child
  rw[List.filter_append,List.filter_cons]
  by_cases h:dig n t x=i
  ·simp[h]
  ·simp[h]
 rw[e]
 by_cases h:dig n t x=i
 ·rw[if_pos h,if_pos h];rfl
 ·rw[if_neg h,if_neg h,List.nil_append]
  refine filter_sides hs.child ?_
  intro p hp e0
  have h1:=(mem_child.1 hp).2
  have h2:=cmp_key e0
  apply h
  unfold dig at h1 ⊢
  rw[← h2];exact h1
theorem child_del {n t i:Nat}{k:List UInt8}{m:List Pr}:child n t i (del k m)=del k (child n t i m):=filter_child _ _ _ _ _
theorem mem_ins {n:Nat}{x p:Pr}{m:List Pr}(h:p∈ins n x m):p=x∨p∈m:=by
 unfold ins at h
 simp at h
 rcases h with h|h|h
 ·exact .inr h.1
 ·exact .inl h
 ·exact .inr h.1
theorem x_mem_ins (n:Nat)(x:Pr)(m:List Pr):x∈ins n x m:=by simp[ins]
theorem ins_srt {n:Nat}{x:Pr}{m:List Pr}(hs:Srt n m):Srt n (ins n x m):=by
 unfold ins Srt
 rw[List.pairwise_append]
 refine⟨hs.filter _,List.pairwise_cons.2 ⟨?_,hs.filter _⟩,?_⟩
 ·intro q hq
  have:=(List.mem_filter.1 hq).2
  simp at this
  rw[cmp_neg];omega
 ·intro p hp q hq
  have h1:=(List.mem_filter.1 hp).2
  simp at h1
  rcases List.mem_cons.1 hq with rfl|hq
  ·exact h1
  ·have h2:=(List.mem_filter.1 hq).2
   simp at h2
   exact cmp_trans h1 (by rw[cmp_neg];omega)
theorem del_srt {n:Nat}{k:List UInt8}{m:List Pr}(hs:Srt n m):Srt n (del k m):=hs.filter _
theorem ins_keep {n:Nat}{x p:Pr}{m:List Pr}(h:p∈m)(hk:p.key≠x.key):p∈ins n x m:=by
 unfold ins
 have h0:cmp n p x≠0:=fun e=>hk (cmp_key e)
 rcases Int.lt_or_gt_of_ne h0 with g|g
 ·simp[h,g]
 ·simp[h,g]
theorem has_ins {n t:Nat}{x:Pr}{m:List Pr}(i:Nat):has n t (ins n x m) i=(has n t m i || i == dig n t x):=by
 rw[Bool.eq_iff_iff,Bool.or_eq_true,has_iff,has_iff,beq_iff_eq]
 constructor
 ·rintro⟨p,hp,rfl⟩
  rcases mem_ins hp with rfl|hp
  ·exact .inr rfl
  ·exact .inl ⟨p,hp,rfl⟩
 ·rintro(⟨p,hp,rfl⟩|rfl)
  ·by_cases hk:p.key=x.key
   ·refine⟨x,x_mem_ins _ _ _,?_⟩
    unfold dig;rw[hk]
   ·exact⟨p,ins_keep hp hk,rfl⟩
  ·exact⟨x,x_mem_ins _ _ _,rfl⟩
theorem bm_ins {n t:Nat}{x:Pr}{m:List Pr}:bm n t (ins n x m)=Nib.add (bm n t m) (dig n t x):=by
 unfold bm
 rw[bmf_add _ _ (dig_lt _ _ _)]
 exact bmf_congr fun i _=>has_ins i
theorem ins_of_sides {n:Nat}{x:Pr}{A B C:List Pr}(hA:∀ p∈A,cmp n p x<0)(hB:∀ p∈B,cmp n p x=0)(hC:∀ p∈C,0<cmp n p x):ins n x (A++(B++C))=A++x :: C:=by
 unfold ins
 simp only[List.filter_append]
 rw[(List.filter_eq_self (l:=A)).2 (fun p hp=>by simpa using hA p hp),(List.filter_eq_nil_iff (l:=B)).2 (fun p hp=>by have:=hB p hp;simp;omega),(List.filter_eq_nil_iff (l:=C)).2 (fun p hp=>by have:=hC p hp;simp;omega),
  (List.filter_eq_nil_iff (l:=A)).2 (fun p hp=>by have:=hA p hp;simp;omega),(List.filter_eq_nil_iff (l:=B)).2 (fun p hp=>by have:=hB p hp;simp;omega),(List.filter_eq_self (l:=C)).2 (fun p hp=>by simpa using hC p hp)]
 simp
theorem ins_nil (n:Nat)(x:Pr):ins n x []=[x]:=rfl
theorem single_ins {n:Nat}{x:Pr}{m:List Pr}:single n (ins n x m)=true↔(single n m=true∧∀ p∈m,Dg.key n p.key=Dg.key n x.key):=by
 constructor
 ·intro h
  have h':=single_iff.1 h
  have g:∀ p∈m,Dg.key n p.key=Dg.key n x.key:=by
   intro p hp
   by_cases hk:p.key=x.key
   ·rw[hk]
   ·exact h' p (ins_keep hp hk) x (x_mem_ins _ _ _)
  exact⟨single_iff.2 fun p hp q hq=>(g p hp).trans (g q hq).symm,g⟩
 ·rintro⟨_,g⟩
  refine single_iff.2 fun p hp q hq=>?_
  have e:∀ p∈ins n x m,Dg.key n p.key=Dg.key n x.key:=by
   intro p hp
   rcases mem_ins hp with rfl|hp
   ·rfl
   ·exact g p hp
  rw[e p hp,e q hq]
end Hm
abbrev nbk (b:Nat):Value:= .iface 160 (ptr b)
abbrev nbr (b:Nat):Value:= .iface 167 (ptr b)
def Xq (of:List UInt8)(s:Value)(d:List UInt8):List Value:=of.map b8++([s]++d.map b8)
def Xx (m:Nat)(s:Value)(d:List UInt8)(z:Int):List Value:=[.int .u16 m,s]++(d.map b8++[.int .i64 z])
structure Zd [Inhabited LoT] (w:World) (n b:Nat) (m:List Pr) (of:List UInt8) (A:Option Addr) (c:Nat) (L:List (List Value)):Prop where
 blk:Blk w b 164 (Xq of (.slice A m.length c) (Dg.bucket n m))
 rd:Rd w A L.flatten
 at_:Ql w L m
 cap:m.length≤c
 key:∀ p∈m,Dg.key n p.key=of
 len:of.length=32
 ne:m≠[]
 ty:Tyd w 166 A
def Bk [Inhabited LoT](w:World)(n:Nat)(v:Value)(m:List Pr):Prop:=∃ b of A c L,v=nbk b∧Zd w n b m of A c L
def QL [Inhabited LoT](S:Nat→Prop)(w:World)(n:Nat):Nat→Nat→Value→List Pr→Prop
 |0,_,v,m=>Bk w n v m
 |f+1,t,v,m=>(Hm.single n m=true∧Bk w n v m)∨(Hm.single n m=false∧∃ (b:Nat) (A:Option Addr) (c:Nat) (z:Int) (val:Nat→Value),v=nbr b∧
   Blk w b 171 (Xx (Hm.bm n t m) (.slice A (Hm.digs n t m).length c) (Hm.node n (f+1) t m) z)∧Rd w A ((Hm.digs n t m).map val)∧(Hm.digs n t m).length≤c∧((∀ a,A=some a→S a.block)∧Tyd w 157 A)∧
   ∀ i∈Hm.digs n t m,QL S w n f (t+1) (val i) (Hm.child n t i m))
theorem Zd.grown [Inhabited LoT]{w w':World}{n b:Nat}{m:List Pr}{of:List UInt8}{A:Option Addr}{c:Nat}{L:List (List Value)}(h:Zd w n b m of A c L)(hb:Below w.heap.size w w'):Zd w' n b m of A c L:=
 ⟨h.blk.grown hb,h.rd.grown hb,h.at_.grown hb,h.cap,h.key,h.len,h.ne,h.ty.grown hb⟩
theorem Bk.grown [Inhabited LoT]{w w':World}{n:Nat}{v:Value}{m:List Pr}(h:Bk w n v m)(hb:Below w.heap.size w w'):Bk w' n v m:=by
 obtain⟨b,of,A,c,L,e,h⟩:=h
 exact⟨b,of,A,c,L,e,h.grown hb⟩
theorem QL.grown [Inhabited LoT]{S:Nat→Prop}{w w':World}{n:Nat}(hb:Below w.heap.size w w'):∀ {f t:Nat} {v:Value} {m:List Pr},QL S w n f t v m→QL S w' n f t v m
 |0,_,_,_,h=>Bk.grown h hb
 |f+1,t,v,m,h=>by
  rcases h with ⟨h1,h2⟩|⟨h1,b,A,c,z,val,e,h2,h3,h4,h6,h5⟩
  ·exact .inl ⟨h1,h2.grown hb⟩
  ·exact .inr ⟨h1,b,A,c,z,val,e,h2.grown hb,h3.grown hb,h4,⟨h6.1,h6.2.grown hb⟩,fun i hi=>QL.grown hb (h5 i hi)⟩
theorem QL.ne [Inhabited LoT]{S:Nat→Prop}{w:World}{n:Nat}:∀ {f t:Nat} {v:Value} {m:List Pr},QL S w n f t v m→m≠[]
 |0,_,_,_,⟨_,_,_,_,_,_,h⟩=>h.ne
 |f+1,t,v,m,h=>by
  rcases h with ⟨_,_,_,_,_,_,_,h⟩|⟨h1,_⟩
  ·exact h.ne
  ·intro e;subst e;simp[Hm.single] at h1
theorem Bk.ht [Inhabited LoT]{S:Nat→Prop}{w:World}{n:Nat}{v:Value}{m:List Pr}(h:Bk w n v m):∀ f t,QL S w n f t v m
 |0,_=>h
 |f+1,t=> .inl ⟨by
  obtain⟨b,of,A,c,L,e,h⟩:=h
  exact Hm.single_iff.2 fun p hp q hq=>(h.key p hp).trans (h.key q hq).symm,h⟩
theorem QL.mono [Inhabited LoT]{S S':Nat→Prop}{w:World}{n:Nat}(hS:∀ k,S k→S' k):∀ {f t:Nat} {v:Value} {m:List Pr},QL S w n f t v m→QL S' w n f t v m
 |0,_,_,_,h=>h
 |f+1,t,v,m,h=>by
  rcases h with h|⟨h1,b,A,c,z,val,e,h2,h3,h4,h6,h5⟩
  ·exact .inl h
  ·exact .inr ⟨h1,b,A,c,z,val,e,h2,h3,h4,⟨fun a ha=>hS _ (h6.1 a ha),h6.2⟩,fun i hi=>QL.mono hS (h5 i hi)⟩
theorem Rd.write {w:World}{g r:Nat}{T:TypeId}{q:Nat}{u:Value}(hc:w.cell? ⟨g,r,none⟩=some (.iface T (ptr q))){A:Option Addr}{cs:List Value}(h:Rd w A cs)(hn:∀ v∈cs,v≠ .iface T (ptr q)):Rd (w.setCell ⟨g,r,none⟩ u) A cs:=fun he=>by
 obtain⟨g',o',e,hr⟩:=h he
 refine⟨g',o',e,fun j v hj=>?_⟩
 have h1:=hr j v hj
 by_cases hg:(⟨g',o'+j,none⟩:Addr)=⟨g,r,none⟩
 ·rw[hg,hc] at h1
  exact absurd (Option.some.inj h1).symm (hn v (List.mem_of_getElem? hj))
 ·rw[World.cell?_setCell_other _ _ _ _ (fun e=>hg e.symm)];exact h1
theorem QO.write [Inhabited LoT]{w:World}{g r:Nat}{T:TypeId}{q:Nat}{u:Value}(hc:w.cell? ⟨g,r,none⟩=some (.iface T (ptr q))){x:List Value}{p:Pr}(h:QO w x p):QO (w.setCell ⟨g,r,none⟩ u) x p:=by
 obtain⟨A1,c1,A2,c2,e,h1,h2,h3,h4,h5,h6⟩:=h
 refine⟨A1,c1,A2,c2,e,h1.write hc ?_,h2.write hc ?_,h3,h4,h5.set _ _,h6.set _ _⟩
 ·intro v hv;obtain⟨y,_,rfl⟩:=List.mem_map.1 hv;simp[b8]
 ·intro v hv;obtain⟨y,_,rfl⟩:=List.mem_map.1 hv;simp[b8]
theorem Ql.write [Inhabited LoT]{w:World}{g r:Nat}{T:TypeId}{q:Nat}{u:Value}(hc:w.cell? ⟨g,r,none⟩=some (.iface T (ptr q))){L:List (List Value)}{m:List Pr}(h:Ql w L m):Ql (w.setCell ⟨g,r,none⟩ u) L m:=⟨h.len,fun i x p h1 h2=>(h.at_ i x p h1 h2).write hc⟩
theorem Ql.slices [Inhabited LoT]{w:World}{L:List (List Value)}{m:List Pr}(h:Ql w L m):∀ v∈L.flatten,∃ A n c,v= .slice A n c:=by
 intro v hv
 obtain⟨x,hx,hv⟩:=List.mem_flatten.1 hv
 obtain⟨i,hi,rfl⟩:=List.getElem_of_mem hx
 have hm:i<m.length:=by have:=h.len;omega
 obtain⟨A1,c1,A2,c2,e,_⟩:=h.at_ i L[i] m[i] (by simp[hi]) (by simp[hm])
 rw[e] at hv
 rcases List.mem_cons.1 hv with rfl|hv
 ·exact⟨_,_,_,rfl⟩
 ·rw[List.mem_singleton] at hv;subst hv;exact⟨_,_,_,rfl⟩
theorem Blk.ne_type {w:World}{g k:Nat}{t t':TypeId}{cs ds:List Value}(h:Blk w g t cs)(hk:Blk w k t' ds)(hne:t≠t'):k≠g:=by
 rintro rfl
 unfold Blk at h hk
 rw[h] at hk
 injection hk with hk
 injection hk with _ ht
 exact hne ht
theorem Bk.write [Inhabited LoT]{w:World}{n g r:Nat}{T:TypeId}{q:Nat}{u:Value}{cur:List Value}(hg:Blk w g 157 cur)(hc:w.cell? ⟨g,r,none⟩=some (.iface T (ptr q))){v:Value}{m:List Pr}(h:Bk w n v m):Bk (w.setCell ⟨g,r,none⟩ u) n v m:=by
 obtain⟨b,of,A,c,L,e,h⟩:=h
 refine⟨b,of,A,c,L,e,h.blk.far (p:=⟨g,r,none⟩) (hg.ne_type h.blk (by decide)) u,h.rd.write hc ?_,h.at_.write hc,h.cap,h.key,h.len,h.ne,h.ty.set _ _⟩
 intro v hv
 obtain⟨A',n',c',rfl⟩:=h.at_.slices v hv
 simp
theorem QL.write [Inhabited LoT]{S:Nat→Prop}{w:World}{n g r:Nat}{T:TypeId}{q:Nat}{u:Value}{cur:List Value}(hg:Blk w g 157 cur)(hc:w.cell? ⟨g,r,none⟩=some (.iface T (ptr q)))(hS:¬S g):
 ∀ {f t:Nat} {v:Value} {m:List Pr},QL S w n f t v m→QL S (w.setCell ⟨g,r,none⟩ u) n f t v m
 |0,_,_,_,h=>Bk.write hg hc h
 |f+1,t,v,m,h=>by
  rcases h with ⟨h1,h2⟩|⟨h1,b,A,c,z,val,e,h2,h3,h4,h6,h5⟩
  ·exact .inl ⟨h1,h2.write hg hc⟩
  ·refine .inr ⟨h1,b,A,c,z,val,e,h2.far (p:=⟨g,r,none⟩) (hg.ne_type h2 (by decide)) u,?_,h4,⟨h6.1,h6.2.set _ _⟩,fun i hi=>QL.write hg hc hS (h5 i hi)⟩
   intro he
   obtain⟨g',o',e',hr⟩:=h3 he
   refine⟨g',o',e',fun j v hj=>?_⟩
   have hne:g'≠g:=by rintro rfl;exact hS (h6.1 _ e')
   rw[World.cell?_setCell_other _ _ _ _ (by intro e;cases e;exact hne rfl)]
   exact hr j v hj
def Uf (w:World)(v:Value)(d:List UInt8):Prop:=d.length=32∧((∃ b of s,v=nbk b∧of.length=32∧Blk w b 164 (Xq of s d)∧∃ A k c,s= .slice A k c)∨(∃ b bm s z,v=nbr b∧Blk w b 171 (Xx bm s d z)))
theorem node_len (n:Nat)(h2:n≤32)(f t:Nat)(m:List Pr):(Hm.node n f t m).length=32:=by
 cases f with
 |zero=>exact Dg.sum_length _ _ h2
 |succ f=>
  rw[Hm.node]
  split
  ·exact Dg.sum_length _ _ h2
  ·exact Dg.sum_length _ _ h2
theorem Ks (n:Nat)(h2:n≤32)(f t:Nat)(m:List Pr):Dg.form n (Hm.node n f t m)=true:=by
 cases f with
 |zero=>exact Dg.form_sum _ _ h2
 |succ f=>
  rw[Hm.node]
  split
  ·exact Dg.form_sum _ _ h2
  ·exact Dg.form_sum _ _ h2
theorem Bk.sumAt [Inhabited LoT]{w:World}{n:Nat}{v:Value}{m:List Pr}(h:Bk w n v m)(h2:n≤32):Uf w v (Dg.bucket n m):=by
 obtain⟨b,of,A,c,L,e,h⟩:=h
 exact⟨Dg.sum_length _ _ h2,.inl ⟨b,of,_,e,h.len,h.blk,_,_,_,rfl⟩⟩
theorem QL.sumAt [Inhabited LoT]{S:Nat→Prop}{w:World}{n:Nat}(h2:n≤32):∀ {f t:Nat} {v:Value} {m:List Pr},QL S w n f t v m→Uf w v (Hm.node n f t m)
 |0,_,_,_,h=>Bk.sumAt h h2
 |f+1,t,v,m,h=>by
  rcases h with ⟨h1,h3⟩|⟨h1,b,A,c,z,val,e,h3,_⟩
  ·rw[Hm.node_single h1];exact h3.sumAt h2
  ·exact⟨node_len n h2 _ _ _,.inr ⟨b,_,_,z,e,h3⟩⟩
theorem Y1 {of:List UInt8}{s:Value}{d:List UInt8}{w:World}{b:Nat}{t:TypeId}(h:Blk w b t (Xq of s d)):w.rangeAt b 0 (of.map b8):=by
 have:=h.range [] (of.map b8) ([s]++d.map b8) rfl
 simpa using this
theorem Xd {of:List UInt8}{s:Value}{d:List UInt8}{w:World}{b:Nat}{t:TypeId}(h:Blk w b t (Xq of s d))(hl:of.length=32):w.cell? ⟨b,32,none⟩=some s:=by
 rw[h.cell];unfold Xq;rw[List.getElem?_append_right (by simp[hl])];simp[hl]
theorem Qg4 {of:List UInt8}{s:Value}{d:List UInt8}{w:World}{b:Nat}{t:TypeId}(h:Blk w b t (Xq of s d))(hl:of.length=32):w.rangeAt b 33 (d.map b8):=by
 have:=h.range (of.map b8++[s]) (d.map b8) [] (by simp[Xq])
 simpa [hl] using this
theorem Zj {m:Nat}{s:Value}{d:List UInt8}{z:Int}{w:World}{b:Nat}{t:TypeId}(h:Blk w b t (Xx m s d z)):w.cell? ⟨b,0,none⟩=some (.int .u16 m):=by rw[h.cell];rfl
theorem XB {m:Nat}{s:Value}{d:List UInt8}{z:Int}{w:World}{b:Nat}{t:TypeId}(h:Blk w b t (Xx m s d z)):w.cell? ⟨b,1,none⟩=some s:=by rw[h.cell];rfl
theorem Qg5 {m:Nat}{s:Value}{d:List UInt8}{z:Int}{w:World}{b:Nat}{t:TypeId}(h:Blk w b t (Xx m s d z)):w.rangeAt b 2 (d.map b8):=by
 have:=h.range [.int .u16 m,s] (d.map b8) [.int .i64 z] rfl
 simpa using this
theorem Qh6 {m:Nat}{s:Value}{d:List UInt8}{z:Int}{w:World}{b:Nat}{t:TypeId}(h:Blk w b t (Xx m s d z))(hl:d.length=32):w.cell? ⟨b,34,none⟩=some (.int .i64 z):=by
 rw[h.cell];unfold Xx
 rw[List.getElem?_append_right (by simp),List.getElem?_append_right (by simp[hl])]
 simp[hl]
theorem Y2 [Inhabited LoT](b:Nat)(of:List UInt8)(s:Value)(d:List UInt8)(w:World)(hl:of.length=32)(hd:d.length=32)(h:Blk w b 164 (Xq of s d)):
 Calls Tryz.prog 243 #[ptr b] w fun e w'=>e= .returned (dg d)∧Below w.heap.size w w':=by
 have HL:=hid (show (d.map b8).length=32 by simp[hd])
 have HB:=hid h
 clear h
 go_enter Tryz.func243,Tryz.ntmps243
 go_upto_region 1 with fail
 refine Qe (fun w'=>Res w w') (Res.new w) ?_
 rintro w1 hr
 have hr2:w1.rangeAt b 33 (d.map b8):=Qh (Qg4 HB.out hl) hr.bl HB.out.lt
 have ht:=hr.there (Below.refl _ _)
 have HR:=hid hr
 clear hr
 go_wp2_with (first
  |((with_reducible refine Qf 40 (.tmp 5) b 33 _ 32 _ HL.out hr2 Tryz.underlying40 rfl (by kernel_rfl) ?_ ?_ ?_ ?_);rfl;rfl;rfl)
  |((with_reducible refine Qv 40 (.tmp 2) (.tmp 6) w.heap.size 0 (d.map b8) 32 HL.out ht (by kernel_rfl) (Qi _) ?_ ?_ ?_ ?_ ?_);rfl;rfl;rfl;rfl))
 exact QD w.heap.size 0 _ 32 _ HL.out (World.rangeAt_setCells_same _ _ _ _ (by rw[HL.out];exact ht)) Tryz.underlying40 rfl (by kernel_rfl) rfl rfl rfl ⟨rfl,Qc _ (Nat.le_refl _) _ _ _ HR.out.bl⟩
theorem Y3 [Inhabited LoT](b bm:Nat)(s:Value)(d:List UInt8)(z:Int)(w:World)(hd:d.length=32)(h:Blk w b 171 (Xx bm s d z)):
 Calls Tryz.prog 245 #[ptr b] w fun e w'=>e= .returned (dg d)∧Below w.heap.size w w':=by
 have HL:=hid (show (d.map b8).length=32 by simp[hd])
 have HB:=hid h
 clear h
 go_enter Tryz.func245,Tryz.ntmps245
 go_upto_region 1 with fail
 refine Qe (fun w'=>Res w w') (Res.new w) ?_
 rintro w1 hr
 have hr2:w1.rangeAt b 2 (d.map b8):=Qh (Qg5 HB.out) hr.bl HB.out.lt
 have ht:=hr.there (Below.refl _ _)
 have HR:=hid hr
 clear hr
 go_wp2_with (first
  |((with_reducible refine Qf 40 (.tmp 5) b 2 _ 32 _ HL.out hr2 Tryz.underlying40 rfl (by kernel_rfl) ?_ ?_ ?_ ?_);rfl;rfl;rfl)
  |((with_reducible refine Qv 40 (.tmp 2) (.tmp 6) w.heap.size 0 (d.map b8) 32 HL.out ht (by kernel_rfl) (Qi _) ?_ ?_ ?_ ?_ ?_);rfl;rfl;rfl;rfl))
 exact QD w.heap.size 0 _ 32 _ HL.out (World.rangeAt_setCells_same _ _ _ _ (by rw[HL.out];exact ht)) Tryz.underlying40 rfl (by kernel_rfl) rfl rfl rfl ⟨rfl,Qc _ (Nat.le_refl _) _ _ _ HR.out.bl⟩
theorem Ug [Inhabited LoT](b:Nat)(of:List UInt8)(A:Option Addr)(k c:Nat)(d:List UInt8)(w:World)(hl:of.length=32)(h:Blk w b 164 (Xq of (.slice A k c) d)):
 Calls Tryz.prog 242 #[ptr b] w fun e w'=>e= .returned (.int .i64 k)∧w=w':=by
 have c0:=Xd h hl
 clear h
 go_enter Tryz.func242,Tryz.ntmps242
 go_wp2_with fail
 go_ret
 exact⟨rfl,rfl⟩
theorem Uh [Inhabited LoT](b bm:Nat)(s:Value)(d:List UInt8)(z:Int)(w:World)(hl:d.length=32)(h:Blk w b 171 (Xx bm s d z)):
 Calls Tryz.prog 244 #[ptr b] w fun e w'=>e= .returned (.int .i64 z)∧w=w':=by
 have c0:=Qh6 h hl
 clear h
 go_enter Tryz.func244,Tryz.ntmps244
 go_wp2_with fail
 go_ret
 exact⟨rfl,rfl⟩
def Bnd (m:List Pr):Prop:=m.length<1048576∧∀ p∈m,p.key.length≤64∧p.val.length≤256
theorem Bnd.size {m:List Pr}(h:Bnd m):QS m<2199023255552:=by
 have g:∀ l:List Pr,(∀ p∈l,p.key.length≤64∧p.val.length≤256)→QS l≤400*l.length:=by
  intro l
  induction l with
  |nil=>intro _;simp[QS]
  |cons p r ih=>
   intro hp
   have h1:=ih (fun q hq=>hp q (by simp[hq]))
   have h2:=hp p (by simp)
   unfold QS at h1 ⊢
   rw[List.flatMap_cons,List.length_append,List.length_append,List.length_cons]
   have u1:=Wi.uvar_length 9 p.key.length (by omega)
   have u2:=Wi.uvar_length 9 p.val.length (by omega)
   have b1:(Wi.blob p.key).length=(Wi.uvar p.key.length).length+p.key.length:=by simp[Wi.blob]
   have b2:(Wi.blob p.val).length=(Wi.uvar p.val.length).length+p.val.length:=by simp[Wi.blob]
   omega
 have:=g m h.2
 have:=h.1
 omega
theorem Bnd.filter {m:List Pr}(h:Bnd m)(f:Pr→Bool):Bnd (m.filter f):=⟨Nat.lt_of_le_of_lt (List.length_filter_le _ _) h.1,fun p hp=>h.2 p (List.mem_filter.1 hp).1⟩
theorem Qfr (parts:List (Nat×Value)):Tryz.prog.built 164 parts=Instr.fill ((#[(0,32),(32,1),(33,32)]:Array (Nat×Nat))[·]?) (List.replicate 32 (b8 0)++([Value.slice none 0 0]++List.replicate 32 (b8 0))).toArray parts:=by kernel_rfl
theorem Qdk [Inhabited LoT](of d:List UInt8)(A:Option Addr)(k c:Nat)(ho:of.length=32)(hd:d.length=32):Tryz.prog.built 164 [(0,dg of),(1,.slice A k c),(2,dg d)]=some (Xq of (.slice A k c) d).toArray:=by
 have hO:(of.map b8).length=32:=by simp[ho]
 have hD:(d.map b8).length=32:=by simp[hd]
 rw[Qfr,QE _ _ 0 _ _ 0 32 rfl (of.map b8) rfl hO (by simp),Q6 _ _ _ (by rw[hO];simp),
  QE _ _ 1 _ _ 32 1 rfl [.slice A k c] rfl rfl (by simp[ho]),QM _ _ _ _ (by omega),hO,
  show splice ([Value.slice none 0 0]++List.replicate 32 (b8 0)) (32-32) [.slice A k c]=[.slice A k c]++List.replicate 32 (b8 0) from Q6 _ _ _ rfl,
  QE _ _ 2 _ _ 33 32 rfl (d.map b8) rfl hD (by simp[ho]),QM _ _ _ _ (by omega),hO]
 have:splice ([Value.slice A k c]++List.replicate 32 (b8 0)) (33-32) (d.map b8)=[.slice A k c]++d.map b8:=by
  rw[QM _ _ _ _ (by simp)]
  congr 1
  exact XL _ _ (by simp[hd])
 rw[this]
 rfl
theorem ZK [Inhabited LoT](b n:Nat)(h1:1≤n)(h2:n≤32)(of:List UInt8)(ho:of.length=32)(A:Option Addr)(c:Nat)(L:List (List Value))(m:List Pr)(w:World)(hw:Qs w)(hb:w.cell? ⟨b,0,none⟩=some (.int .i64 n))(hA:Rd w A L.flatten)(hP:Ql w L m)(hs:Bnd m):
 Calls Tryz.prog 161 #[ptr b,dg of,.slice A m.length c] w fun e w'=>∃ b',e= .returned (ptr b')∧Below w.heap.size w w'∧Blk w' b' 164 (Xq of (.slice A m.length c) (Dg.bucket n m)):=by
 have HO:=hid (show (of.map b8).length=32 by simp[ho])
 have hd:=Dg.sum_length n (Dg.bucketIn m) h2
 have HD:=hid (show ((Dg.bucket n m).map b8).length=32 by unfold Dg.bucket;simp[hd])
 have HF:=hid (Qdk of (Dg.bucket n m) A m.length c ho hd)
 have HA:=hid (Qa hw (Qa hA (Qa hP (Qa hs hb))))
 clear hw hA hP hs hd hb
 go_enter Tryz.func161,Tryz.ntmps161
 go_upto_region 1 with fail
 refine Qe (fun w'=>Blk w' w.heap.size 40 (of.map b8)∧Below w.heap.size w w') ⟨Blk.new w _ _,Qb _ _⟩ ?_
 rintro w1 ⟨hb1,hbl1⟩
 have k0:w1.cell? ⟨b,0,none⟩=some (.int .i64 n):=by rw[hbl1.cell (p:=⟨b,0,none⟩) (World.block_lt_of_cell? w _ HA.out.2.2.2.2)];exact HA.out.2.2.2.2
 have HB:=hid (Qa hb1 hbl1)
 clear hb1 hbl1
 go_upto_region 2 with (first
  |(go_at_call 199
    refine (Wh n h1 h2 A c L m w1 (HA.out.1.below HB.out.2) (HA.out.2.1.grown HB.out.2) (HA.out.2.2.1.grown HB.out.2) HA.out.2.2.2.1.size (by have:=HA.out.2.2.2.1.1;omega)).mono ?_
    rintro e w2 ⟨rfl,hb⟩
    have HV:=hid hb;clear hb)
  |((with_reducible refine Qw 40 (.tmp 7) (.tmp 16) _ _ ((Dg.bucket n m).map b8) 32 HD.out ?_ (by kernel_rfl) (Qi _) ?_ ?_ ?_ ?_ ?_);rfl;rfl;rfl;rfl;rfl))
 refine Qe (fun w'=>w'.rangeAt w.heap.size 0 (of.map b8)∧w'.rangeAt w2.heap.size 0 ((Dg.bucket n m).map b8)∧Below w.heap.size w w') ⟨((HB.out.1.grown HV.out).alloc _).whole,(Blk.new w2 _ _).whole,gro (gro HB.out.2 HV.out) (Qb _ _)⟩ ?_
 rintro w3 ⟨hr1,hr2,hb3⟩
 have HE:=hid hb3
 clear hb3
 go_wp2_with (first
  |((with_reducible refine Qf 40 (.tmp 4) w.heap.size 0 _ 32 _ HO.out hr1 Tryz.underlying40 rfl (by kernel_rfl) ?_ ?_ ?_ ?_);rfl;rfl;rfl)
  |((with_reducible refine Qf 40 (.tmp 7) w2.heap.size 0 _ 32 _ HD.out hr2 Tryz.underlying40 rfl (by kernel_rfl) ?_ ?_ ?_ ?_);rfl;rfl;rfl)
  |((with_reducible refine Za 164 #[(0,.tmp 18),(1,.tmp 19),(2,.tmp 20)] (Xq of (.slice A m.length c) (Dg.bucket n m)) ?_ ?_ ?_ ?_);rfl;rfl;exact HF.out))
 go_ret
 exact⟨_,rfl,gro HE.out (Qb _ _),Blk.new _ _ _⟩
theorem Jp:(Tryz.prog.info? 40).map (fun i=>(i.zero,i.size,i.bytes))=some (some (dg (List.replicate 32 0)),32,32):=by kernel_rfl
theorem Qfs (k:Nat):madeCells (dg (List.replicate 32 0)).cells (k*32)=(List.replicate (k*32) (b8 0)).toArray:=by
 apply Array.ext_getElem?
 intro i
 by_cases h:i<k*32
 ·have e:(madeCells (dg (List.replicate 32 0)).cells (k*32))[i]?=some ((dg (List.replicate 32 0)).cells[i % 32]!):=by
   simp[madeCells,h,Value.cells]
  rw[e]
  have h2:i % 32<32:=Nat.mod_lt _ (by decide)
  have e2:(dg (List.replicate 32 0)).cells=(List.replicate 32 (b8 0)).toArray:=by simp[Value.cells]
  have e3:∀ r,r<32→(List.replicate 32 (b8 0)).toArray[r]! =b8 0:=by
   intro r hr
   rw[getElem!_pos _ _ (by rw[List.size_toArray,List.length_replicate];exact hr)]
   exact List.getElem_replicate _
  rw[e2,e3 _ h2,List.getElem?_toArray,List.getElem?_replicate,if_pos h]
 ·rw[Array.getElem?_eq_none (by rw[size_madeCells];omega),Array.getElem?_eq_none (by simp;omega)]
theorem Qdl [Inhabited LoT](k:Nat)(hk:k<1048576)(w:World):(Instr.makeSlice 105 (.int .i64 k) (.int .i64 k)).run Tryz.prog w= .ok (.slice (some ⟨w.heap.size,0,none⟩) k k) (w.alloc (.cells (List.replicate (k*32) (b8 0)).toArray 40)):=by
 obtain⟨i,hi,hz,hsize,hby⟩:=info_parts Jp
 have:=run_make (P:=Tryz.prog) w 105 40 i (dg (List.replicate 32 0)) Tryz.underlying105 hi hz .i64 .i64 k k (by omega) (by omega) (by rw[hby];omega) (by omega)
 rw[this]
 simp only[Int.toNat_natCast,hsize,Qfs]
@[go_sem] theorem Qg6 (b:Nat)(w:World):(method 401 160 (ptr b) "notary/hamt.sum").run Tryz.prog w= .ok (243,ptr b) w:=by kernel_rfl
@[go_sem] theorem Qft (b:Nat)(w:World):(method 401 160 (ptr b) "notary/hamt.count").run Tryz.prog w= .ok (242,ptr b) w:=by kernel_rfl
@[go_sem] theorem Qg7 (b:Nat)(w:World):(method 401 167 (ptr b) "notary/hamt.sum").run Tryz.prog w= .ok (245,ptr b) w:=by kernel_rfl
@[go_sem] theorem Qfu (b:Nat)(w:World):(method 401 167 (ptr b) "notary/hamt.count").run Tryz.prog w= .ok (244,ptr b) w:=by kernel_rfl
def XF (w:World)(b n:Nat):Prop:=w.cell? ⟨b,0,none⟩=some (.int .i64 n)
theorem XF.grown {w w':World}{b n:Nat}(h:XF w b n)(hb:Below w.heap.size w w'):XF w' b n:=by
 unfold XF at h ⊢
 rw[hb.cell (p:=⟨b,0,none⟩) (World.block_lt_of_cell? w _ h)];exact h
theorem Ui {ks:List (List UInt8)}{j:Nat}(h:j<ks.length):(dgs (ks.take (j+1))).flatten=(dgs (ks.take j)).flatten++ks[j].map b8:=by
 unfold dgs
 rw[List.take_succ_eq_append_getElem h,List.map_append,List.flatten_append]
 simp
theorem Wu [Inhabited LoT]{ks:List (List UInt8)}{j k:Nat}(hd:∀ d∈ks,d.length=32)(h:j<ks.length)(hk:j<k):
 splice ((dgs (ks.take j)).flatten++List.replicate ((k-j)*32) (b8 0)) (j*32) (ks[j].map b8)=(dgs (ks.take (j+1))).flatten++List.replicate ((k-(j+1))*32) (b8 0):=by
 have e1:(dgs (ks.take j)).flatten.length=j*32:=by
  rw[Xc 32 _ (Q3 fun d hd'=>hd d (List.mem_of_mem_take hd'))]
  simp[dgs];omega
 have e2:(ks[j].map b8).length=32:=by rw[List.length_map];exact hd _ (List.getElem_mem h)
 rw[QM _ _ _ _ (by omega),e1,Nat.sub_self,Ui h,List.append_assoc]
 congr 1
 rw[show (k-j)*32=32+(k-(j+1))*32 by omega,←List.replicate_append_replicate]
 exact Q6 _ _ _ (by rw[e2];simp)
theorem Yf {w:World}{g t:Nat}{ks:List (List UInt8)}{j k:Nat}(hd:∀ d∈ks,d.length=32)(h:j<ks.length)(hk:j<k)(hb:Blk w g t ((dgs (ks.take j)).flatten++List.replicate ((k-j)*32) (b8 0))):w.there g (j*32) 32:=by
 have e1:(dgs (ks.take j)).flatten.length=j*32:=by
  rw[Xc 32 _ (Q3 fun d hd'=>hd d (List.mem_of_mem_take hd'))]
  simp[dgs];omega
 exact hb.there _ _ (by rw[List.length_append,e1,List.length_replicate];omega)
theorem Qfv (parts:List (Nat×Value)):Tryz.prog.built 171 parts=Instr.fill ((#[(0,1),(1,1),(2,32),(34,1)]:Array (Nat×Nat))[·]?) ([Value.int .u16 0,Value.slice none 0 0]++(List.replicate 32 (b8 0)++[Value.int .i64 0])).toArray parts:=by kernel_rfl
theorem Qdm [Inhabited LoT](bm:Nat)(d:List UInt8)(A:Option Addr)(k c:Nat)(z:Int)(hd:d.length=32):Tryz.prog.built 171 [(0,.int .u16 bm),(1,.slice A k c),(2,dg d),(3,.int .i64 z)]=some (Xx bm (.slice A k c) d z).toArray:=by
 have hD:(d.map b8).length=32:=by simp[hd]
 rw[Qfv,QE _ _ 0 _ _ 0 1 rfl [.int .u16 bm] rfl rfl (by simp),
  show splice ([Value.int .u16 0,Value.slice none 0 0]++(List.replicate 32 (b8 0)++[Value.int .i64 0])) 0 [Value.int .u16 bm]=[Value.int .u16 bm,Value.slice none 0 0]++(List.replicate 32 (b8 0)++[Value.int .i64 0]) from rfl,
  QE _ _ 1 _ _ 1 1 rfl [.slice A k c] rfl rfl (by simp),
  show splice ([Value.int .u16 bm,Value.slice none 0 0]++(List.replicate 32 (b8 0)++[Value.int .i64 0])) 1 [Value.slice A k c]=[Value.int .u16 bm,.slice A k c]++(List.replicate 32 (b8 0)++[Value.int .i64 0]) from rfl,
  QE _ _ 2 _ _ 2 32 rfl (d.map b8) rfl hD (by simp),QM _ _ _ _ (by simp),
  show splice (List.replicate 32 (b8 0)++[Value.int .i64 0]) (2-[Value.int .u16 bm,Value.slice A k c].length) (d.map b8)=d.map b8++[Value.int .i64 0] from Q6 _ _ _ (by simp[hd]),
  QE _ _ 3 _ _ 34 1 rfl [.int .i64 z] rfl rfl (by simp[hd]),QM _ _ _ _ (by simp),
  show splice (d.map b8++[Value.int .i64 0]) (34-[Value.int .u16 bm,Value.slice A k c].length) [Value.int .i64 z]=d.map b8++[Value.int .i64 z] from by rw[QM _ _ _ _ (by simp[hd])];simp[hd,splice]]
 rfl
theorem Qdn [Inhabited LoT](b n:Nat)(h1:1≤n)(h2:n≤32)(bm:Nat)(hm:bm<65536)(A:Option Addr)(c:Nat)(vs:List Value)(ks:List (List UInt8))(w:World)(hw:Qs w)(hb:XF w b n)(hl:vs.length=ks.length)(hA:Rd w A vs)
 (hs:∀ (i:Nat) (v:Value) (d:List UInt8),vs[i]?=some v→ks[i]?=some d→Uf w v d) (hf:XZ n ks) (hp:Nib.pop bm=ks.length) (hm0:bm≠0) (hk16:ks.length≤16):
 Calls Tryz.prog 166 #[ptr b,.int .u16 bm,.slice A vs.length c] w fun e w'=>∃ (b':Nat) (z:Int),e= .returned (ptr b')∧Below w.heap.size w w'∧Blk w' b' 171 (Xx bm (.slice A vs.length c) (Dg.branch n bm ks) z):=by
 have HA:=hid (Qa hw (Qa hb (Qa hl (Qa hA (Qa hs (Qa hf hp))))))
 have hv16:vs.length≤16:=by omega
 clear hw hb hl hA hs hf hp
 have hmk:=Qdl vs.length (by omega)
 go_enter Tryz.func166,Tryz.ntmps166
 go_wp2_with fail
 clear hmk
 go_loopg [8,18] vs.length (fun g s8 i wr=>∃ (j:Nat) (z:Int),j+g=vs.length∧i= .int .i64 j∧s8= .int .i64 z∧Below w.heap.size w wr∧Blk wr w.heap.size 40 ((dgs (ks.take j)).flatten++List.replicate ((vs.length-j)*32) (b8 0)))
 case atStart=>exact⟨0,0,by omega,rfl,rfl,Qb _ _,by simpa [dgs] using Blk.new w 40 (List.replicate (vs.length*32) (b8 0))⟩
 case round=>
  obtain⟨j,z,hj,rfl,rfl,hbl,hblk⟩:=hrel
  have HI:=hid (Qa hbl hblk)
  clear hbl hblk
  by_cases hlt:j<vs.length
  ·obtain⟨g,o,rfl,hr⟩:=HA.out.2.2.2.1 (by intro e;rw[e] at hlt;simp at hlt)
   have c0:wr.cell? ⟨g,o+j,none⟩=some vs[j]:=by
    have h:=hr j vs[j] (by simp[hlt])
    rw[HI.out.1.cell (p:=⟨g,o+j,none⟩) (World.block_lt_of_cell? w _ h)];exact h
   have hkl:j<ks.length:=by have:=HA.out.2.2.1;omega
   have hs:=HA.out.2.2.2.2.1 j vs[j] ks[j] (by simp[hlt]) (by simp[hkl])
   have hd32:∀ d∈ks,d.length=32:=fun d hd=>(HA.out.2.2.2.2.2.1 d hd).1
   have HD:=hid (Qa hd32 (Wu (k:=vs.length) hd32 hkl hlt))
   have HL:=hid (show (ks[j].map b8).length=32 by rw[List.length_map];exact hs.1)
   obtain⟨hd,hs⟩:=hs
   have hw1:w.heap.size≤wr.heap.size:=HI.out.1.size
   clear hd32
   rcases hs with ⟨nb,of,s,e,hol,hblk,A9,k9,c9,rfl⟩|⟨nb,bm9,s,z9,e,hblk⟩
   ·rw[e] at c0
    have HK:=hid (Qa hol (Qa hblk hd))
    clear hr e hol hblk hd
    go_wp2_with (first
     |(go_at_call 243
       refine (Y2 nb of _ ks[j] wr HK.out.1 HK.out.2.2 (HK.out.2.1.below HI.out.1 HK.out.2.1.lt)).mono ?_
       rintro e w2 ⟨rfl,hb⟩
       have ht:=Yf HD.out.1 hkl hlt (HI.out.2.grown hb)
       have HV:=hid hb;clear hb)
     |(go_at_call 242
       refine (Ug nb of A9 k9 c9 ks[j] _ HK.out.1 (HK.out.2.1.below (Qc _ (Nat.le_refl _) _ _ _ (HI.out.1.trans (HV.out.mono hw1))) HK.out.2.1.lt)).mono ?_
       rintro e w3 ⟨rfl,rfl⟩)
     |((with_reducible refine Qv 40 (.tmp 27) (.tmp 26) w.heap.size (j*32) (ks[j].map b8) 32 HL.out ht (by kernel_rfl) (Qi _) ?_ ?_ ?_ ?_ ?_);rfl;rfl;rfl;rfl))
    go_roundg (gk-1)
    case measure=>omega
    case rel=>
     refine⟨j+1,_,by omega,by go_num,rfl,Qc _ (Nat.le_refl _) _ _ _ (HI.out.1.trans (HV.out.mono hw1)),?_⟩
     have:=(HI.out.2.grown HV.out).setCells (ks[j].map b8) (j*32) _ (by rw[HL.out,List.length_append,List.length_replicate,Xc 32 _ (Q3 fun d hd'=>HD.out.1 d (List.mem_of_mem_take hd'))];simp[dgs];omega)
     rw[HD.out.2] at this
     exact this
   ·rw[e] at c0
    have HK:=hid (Qa hblk hd)
    clear hr e hblk hd
    go_wp2_with (first
     |(go_at_call 245
       refine (Y3 nb bm9 s ks[j] z9 wr HK.out.2 (HK.out.1.below HI.out.1 HK.out.1.lt)).mono ?_
       rintro e w2 ⟨rfl,hb⟩
       have ht:=Yf HD.out.1 hkl hlt (HI.out.2.grown hb)
       have HV:=hid hb;clear hb)
     |(go_at_call 244
       refine (Uh nb bm9 s ks[j] z9 _ HK.out.2 (HK.out.1.below (Qc _ (Nat.le_refl _) _ _ _ (HI.out.1.trans (HV.out.mono hw1))) HK.out.1.lt)).mono ?_
       rintro e w3 ⟨rfl,rfl⟩)
     |((with_reducible refine Qv 40 (.tmp 27) (.tmp 26) w.heap.size (j*32) (ks[j].map b8) 32 HL.out ht (by kernel_rfl) (Qi _) ?_ ?_ ?_ ?_ ?_);rfl;rfl;rfl;rfl))
    go_roundg (gk-1)
    case measure=>omega
    case rel=>
     refine⟨j+1,_,by omega,by go_num,rfl,Qc _ (Nat.le_refl _) _ _ _ (HI.out.1.trans (HV.out.mono hw1)),?_⟩
     have:=(HI.out.2.grown HV.out).setCells (ks[j].map b8) (j*32) _ (by rw[HL.out,List.length_append,List.length_replicate,Xc 32 _ (Q3 fun d hd'=>HD.out.1 d (List.mem_of_mem_take hd'))];simp[dgs];omega)
     rw[HD.out.2] at this
     exact this
  ·have hj2:j=ks.length:=by have:=HA.out.2.2.1;omega
   have hrd:Rd wr (some ⟨w.heap.size,0,none⟩) (dgs ks).flatten:=by
    have h:=HI.out.2
    rw[show vs.length-j=0 by omega,hj2,List.take_length] at h
    simp only[Nat.zero_mul,List.replicate_zero,List.append_nil] at h
    exact Rd.of _ h.whole
   have hsm:=Dg.sum_length n (Dg.branchIn n bm ks) h2
   have HC:=hid (show ((Dg.branch n bm ks).map b8).length=32 by unfold Dg.branch;simp[hsm])
   have hwr:=HI.out.1
   have hvl:=HA.out.2.2.1
   have hcall:=Qbn n h1 h2 bm hm (some ⟨w.heap.size,0,none⟩) vs.length ks wr (HA.out.1.below hwr) HA.out.2.2.2.2.2.1 hrd HA.out.2.2.2.2.2.2 hm0 hk16
   rw[← hvl] at hcall
   have k0:wr.cell? ⟨b,0,none⟩=some (.int .i64 n):=HA.out.2.1.grown hwr
   have HF:=hid (Qdm bm (Dg.branch n bm ks) A vs.length c z (by unfold Dg.branch;exact hsm))
   have HX:=hid hcall
   clear hj2 hrd hsm hwr hcall hvl
   go_upto_region 10 with (first
    |(go_at_call 204
      refine HX.out.mono ?_
      rintro e w2 ⟨rfl,hb⟩
      have HV:=hid hb;clear hb)
    |((with_reducible refine Qw 40 (.tmp 11) (.tmp 41) _ _ ((Dg.branch n bm ks).map b8) 32 HC.out ?_ (by kernel_rfl) (Qi _) ?_ ?_ ?_ ?_ ?_);rfl;rfl;rfl;rfl;rfl))
   refine Qe (fun w'=>w'.rangeAt w2.heap.size 0 ((Dg.branch n bm ks).map b8)∧Below w.heap.size w w') ⟨(Blk.new w2 _ _).whole,gro (gro HI.out.1 HV.out) (Qb _ _)⟩ ?_
   rintro w3 ⟨hr2,hb3⟩
   have HE:=hid hb3
   clear hb3
   go_wp2_with (first
    |((with_reducible refine Qf 40 (.tmp 11) w2.heap.size 0 _ 32 _ HC.out hr2 Tryz.underlying40 rfl (by kernel_rfl) ?_ ?_ ?_ ?_);rfl;rfl;rfl)
    |((with_reducible refine Za 171 #[(0,.tmp 43),(1,.tmp 44),(2,.tmp 45),(3,.tmp 46)] (Xx bm (.slice A vs.length c) (Dg.branch n bm ks) z) ?_ ?_ ?_ ?_);rfl;rfl;exact HF.out))
   go_ret
   exact⟨_,z,rfl,gro HE.out (Qb _ _),Blk.new _ _ _⟩
end Go.Proofs.YtpnakfeafekneaaGreatDoor
