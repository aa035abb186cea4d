/- Part 37 of this proof. -/
import Derived.Laws.OwnMore
import Derived.Test.YtpnakfeafekneaaGreatDoorG28
import Derived.Test.YtpnakfeafekneaaGreatDoorG31
import Derived.Test.YtpnakfeafekneaaGreatDoorG36
set_option linter.unusedSimpArgs false
set_option linter.unusedVariables false
set_option maxHeartbeats 8000000
set_option maxRecDepth 100000
namespace Go.Proofs.YtpnakfeafekneaaGreatDoor
open Go.RowKit
section
variable {P:Program} {w w':World}
end
namespace Mem
end Mem
section
variable {P:Program} {w w':World}
end
namespace Mem
end Mem
namespace Cu
def c (zs:List Int)(k rem:Nat):Nat:=min (if zs=[] then 1 else (max 1 (min (zs.getD (k % zs.length) 0) 64)).toNat) rem
def go (zs:List Int):Nat→Nat→List Ent→List (List Ent)
 |0,_,_=>[]
 |f+1,k,l=>if l=[] then [] else l.take (c zs k l.length) :: go zs f (k+1) (l.drop (c zs k l.length))
def cut (zs:List Int)(l:List Ent):List (List Ent):=go zs l.length 0 l
theorem c_le (zs:List Int)(k rem:Nat):c zs k rem≤rem:=Nat.min_le_right _ _
theorem c_pos (zs:List Int)(k rem:Nat)(h:0<rem):1≤c zs k rem:=by unfold c;split<;>omega
theorem c_64 (zs:List Int)(k rem:Nat):c zs k rem≤64:=by unfold c;split<;>omega
theorem go_nil (zs:List Int)(f k:Nat):go zs f k []=[]:=by cases f<;>simp[go]
theorem go_cons (zs:List Int)(f k:Nat)(l:List Ent)(h:l≠[])(hf:l.length≤f+1):go zs (f+1) k l=l.take (c zs k l.length) :: go zs f (k+1) (l.drop (c zs k l.length)):=by simp[go,h]
structure Cutting (zs:List Int) (es:List Ent) (k p:Nat) (bs:List (List Ent)):Prop where
 len:bs.length=k
 flat:bs.flatten=es.take p
 rest:∃ f,es.length≤p+f∧cut zs es=bs++go zs f k (es.drop p)
 each:∀ b∈bs,1≤b.length∧b.length≤64
theorem Cutting.start (zs:List Int)(es:List Ent):Cutting zs es 0 0 []:=⟨rfl,by simp,⟨es.length,by omega,by simp[cut]⟩,fun b hb=>by cases hb⟩
theorem Cutting.step {zs:List Int}{es:List Ent}{k p:Nat}{bs:List (List Ent)}(h:Cutting zs es k p bs)(hp:p<es.length):Cutting zs es (k+1) (p+c zs k (es.length-p)) (bs++[(es.drop p).take (c zs k (es.length-p))]):=by
 obtain⟨h1,h2,⟨f,h3,h4⟩,h5⟩:=h
 have hl:(es.drop p).length=es.length-p:=List.length_drop
 have hne:es.drop p≠[]:=fun e=>by rw[e] at hl;simp at hl;omega
 have hc:=c_le zs k (es.length-p)
 have hc1:=c_pos zs k (es.length-p) (by omega)
 refine⟨by simp[h1],?_,?_,?_⟩
 ·rw[List.flatten_append,h2,List.take_add];simp
 ·obtain⟨f',rfl⟩:∃ f',f=f'+1:=⟨f-1,by omega⟩
  refine⟨f',by omega,?_⟩
  rw[h4,go_cons zs f' k _ hne (by omega),hl,List.drop_drop,List.append_assoc]
  rfl
 ·intro b hb
  rcases List.mem_append.1 hb with hb|hb
  ·exact h5 b hb
  ·rw[List.mem_singleton] at hb
   subst hb
   have:=c_64 zs k (es.length-p)
   rw[List.length_take,hl]
   omega
theorem Cutting.done {zs:List Int}{es:List Ent}{k p:Nat}{bs:List (List Ent)}(h:Cutting zs es k p bs)(hp:es.length≤p):bs=cut zs es:=by
 obtain⟨f,-,h4⟩:=h.rest
 rw[h4,List.drop_of_length_le hp,go_nil,List.append_nil]
theorem Cutting.le {zs:List Int}{es:List Ent}{k p:Nat}{bs:List (List Ent)}(h:Cutting zs es k p bs):k≤bs.flatten.length:=by
 have h5:=h.each
 rw[← h.len]
 clear h
 induction bs with
 |nil=>simp
 |cons b r ih=>
  have:=ih fun b hb=>h5 b (by simp[hb])
  have:=(h5 b (by simp)).1
  simp only[List.length_cons,List.flatten_cons,List.length_append]
  omega
def firsts (bs:List (List Ent)):List Nat:=(List.range bs.length).map fun i=>(bs.take i).flatten.length
theorem firsts_len (bs:List (List Ent)):(firsts bs).length=bs.length:=by simp[firsts]
theorem firsts_snoc (bs:List (List Ent))(b:List Ent):firsts (bs++[b])=firsts bs++[bs.flatten.length]:=by
 unfold firsts
 rw[List.length_append,List.length_singleton,List.range_succ,List.map_append]
 congr 1
 ·apply List.map_congr_left
  intro i hi
  rw[List.take_append_of_le_length (by have:=List.mem_range.1 hi;omega)]
 ·simp
end Cu
theorem Qco {w:World}{L:List (List Value)}{es:List Ent}(h:QK w L es)(k:Nat):QK w (L.drop k) (es.drop k):=by
 refine⟨by rw[List.length_drop,List.length_drop,h.len],fun i x p h1 h2=>?_⟩
 rw[List.getElem?_drop] at h1 h2
 exact h.at_ _ x p h1 h2
theorem XA.snoc {w:World}{X:List (List Value)}{Fs:List Nat}{bs:List (List Ent)}{y:List Value}{F:Nat}{b:List Ent}(h:XA w X Fs bs)(hy:Yw w y F b):XA w (X++[y]) (Fs++[F]) (bs++[b]):=by
 refine⟨by simp[h.len],by simp[h.lenF],fun i x F' b' h1 h2 h3=>?_⟩
 have hl:=h.len;have hl2:=h.lenF
 by_cases hi:i<bs.length
 ·rw[List.getElem?_append_left (by omega)] at h1 h2 h3
  exact h.at_ i x F' b' h1 h2 h3
 ·have:i=bs.length:=by
   have:=(List.getElem?_eq_some_iff.1 h3).1
   simp at this;omega
  subst this
  rw[List.getElem?_append_right (by omega)] at h1 h2 h3
  simp[hl,hl2] at h1 h2 h3
  subst h1 h2 h3
  exact hy
theorem XA.grown {w w':World}{X:List (List Value)}{Fs:List Nat}{bs:List (List Ent)}(h:XA w X Fs bs)(hb:Below w.heap.size w w'):XA w' X Fs bs:=⟨h.len,h.lenF,fun i x F b h1 h2 h3=>(h.at_ i x F b h1 h2 h3).grown hb⟩
theorem Qel {w:World}{g o:Nat}{L:List (List Value)}{es:List Ent}(h:w.rangeAt g o L.flatten)(he:QK w L es)(p c:Nat)(hp:p+c≤es.length):Rd w (some ⟨g,o+p*3,none⟩) ((L.drop p).take c).flatten∧QK w ((L.drop p).take c) ((es.drop p).take c):=by
 refine⟨?_,Qcj (Qco he p) c⟩
 have hl:=he.len
 have e:L.flatten=(L.take p).flatten++(((L.drop p).take c).flatten++((L.drop p).drop c).flatten):=by
  rw[← List.flatten_append,List.take_append_drop,←List.flatten_append,List.take_append_drop]
 rw[e] at h
 have h2:=(Q8 h).2
 rw[Qk 3 _ (fun x hx=>he.three x (List.mem_of_mem_take hx)),List.length_take,Nat.min_eq_left (by omega)] at h2
 exact Rd.of _ (Q8 h2).1
theorem Qem {ops:Array Oper}{rest:List Oper}{o:Oper}{a:Act}{Q:Exit→Act→World→Prop}{wr:World}(s x:Operand){base k:Nat}{v:Value}{X:List Value}(hown:wr.ownsRow base 47 2 v k X)(F:Int)(A:Option Addr)(m c:Nat)
 (h63:k+1≤maxLen) (hbytes:(k+1)*32≤140737488355328) (hbase:base≤wr.heap.size)
 (hgd:o.guard=none) (ho:o.op= .call {callee:= .builtin .append,args:= #[s,x],argTypes:= #[44,44]}) (hs:a.eval s=v) (hx:a.eval x= .slice (some ⟨wr.heap.size,0,none⟩) 1 1) {M:Nat} (hM:m=M)
 (h:∀ A' c' w',w'.ownsRow base 47 2 (.slice A' (k+1) c') (k+1) (X++[.int .u64 F,.slice A M c])→Below base wr w'→wpList Tryz.prog ops Q rest (a.put o.dst (.slice A' (k+1) c')) w'):wpList Tryz.prog ops Q (o :: rest) a (wr.alloc (.cells #[.int .u64 F,.slice A m c] 47)):=by
 subst hM
 have hb:Below wr.heap.size wr (wr.alloc (.cells [Value.int .u64 F,.slice A m c].toArray 47)):=Qb wr _
 have ho2:=Qg hown hb
 refine Q1 s x 44 Tryz.underlying44 W0 rfl (by decide) ho2 1 1 (news:=[Value.int .u64 F,.slice A m c]) rfl (Rd.of _ (Blk.new wr 47 [Value.int .u64 F,.slice A m c]).whole) (fun u hu=>?_) h63 hbytes (Nat.le_trans hbase hb.size) hgd ho hs hx ?_
 ·simp only[List.mem_cons,List.not_mem_nil,or_false] at hu
  rcases hu with rfl|rfl<;>rfl
 ·intro v' w' h1 h2 _ _
  obtain⟨A',c',rfl,-,-⟩:=QC h1
  exact h A' c' w' h1 (QB ho2 (hb.mono hbase) (Nat.le_trans hbase hb.size) h2)
theorem Vh {w:World}{g0 o0 n cl k p m:Nat}{L:List (List Value)}{es:List Ent}{zs:List Int}{X:List (List Value)}{bs:List (List Ent)}(hn:es.length=n)(hrA:w.rangeAt g0 o0 L.flatten)(hE:QK w L es)(hB:XA w X (Cu.firsts bs) bs)(hC:Cu.Cutting zs es k p bs)(hp:p<n)(hm:m=Cu.c zs k (n-p)):
 XA w (X++[[.int .u64 p,.slice (some ⟨g0,o0+p*3,none⟩) m (cl-p)]]) (Cu.firsts (bs++[(es.drop p).take m])) (bs++[(es.drop p).take m])∧Cu.Cutting zs es (k+1) (p+m) (bs++[(es.drop p).take m]):=by
 have hc:=Cu.c_le zs k (n-p)
 subst hn
 subst hm
 refine⟨?_,hC.step hp⟩
 rw[Cu.firsts_snoc]
 refine hB.snoc ?_
 have hsub:=Qel hrA hE p (Cu.c zs k (es.length-p)) (by omega)
 have hlen:((es.drop p).take (Cu.c zs k (es.length-p))).length=Cu.c zs k (es.length-p):=by rw[List.length_take,List.length_drop];omega
 refine⟨some ⟨g0,o0+p*3,none⟩,cl-p,_,?_,hsub.1,hsub.2⟩
 rw[hlen,hC.flat,List.length_take,Nat.min_eq_left (by omega)]
theorem Qcp (A Ac:Option Addr)(n cl q cc:Nat)(L:List (List Value))(es:List Ent)(zs:List Int)(w:World)(hn:es.length=n)(hq:zs.length=q)(hA:Rd w A L.flatten)(hE:QK w L es)(hZ:Rd w Ac (zs.map fun z=> .int .i64 z))(hnb:n<1048576)(hcl:n≤cl)(hqb:q<9223372036854775808):
 Calls Tryz.prog 23 #[.slice A n cl,.slice Ac q cc] w fun e w'=>∃ (A':Option Addr) (c':Nat) (X:List (List Value)),e= .returned (.slice A' (Cu.cut zs es).length c')∧Below w.heap.size w w'∧Rd w' A' X.flatten∧XA w' X (Cu.firsts (Cu.cut zs es)) (Cu.cut zs es)∧(Cu.cut zs es).flatten=es∧(Cu.cut zs es).length≤n∧∀ b∈Cu.cut zs es,1≤b.length∧b.length≤64:=by
 have HA:=hid (Qa hn (Qa hq (Qa hA (Qa hE hZ))))
 clear hn hq hA hE hZ
 go_enter Tryz.func23,Tryz.ntmps23
 go_wp2_with fail
 go_loopg [5,6] n (fun g s5 i wr=>∃ (k p:Nat) (Ar:Option Addr) (cr:Nat) (X:List (List Value)) (bs:List (List Ent)),p+g=n∧i= .int .i64 p∧s5= .slice Ar k cr∧wr.ownsRow w.heap.size 47 2 (.slice Ar k cr) k X.flatten∧XA w X (Cu.firsts bs) bs∧Cu.Cutting zs es k p bs∧Below w.heap.size w wr)
 case atStart=>exact⟨0,0,none,0,[],[],by omega,rfl,rfl,World.ownsRow_nil _ _ _ _,⟨rfl,rfl,fun i x F b h=>by simp at h⟩,Cu.Cutting.start zs es,Below.refl _ _⟩
 case round=>
  obtain⟨k,p,Ar,cr,X,bs,hp,rfl,rfl,ho,hB,hC,hb⟩:=hrel
  have hkp:k≤p:=by
   have h1:=hC.le
   rw[hC.flat,List.length_take] at h1
   omega
  have HR:=hid (Qa ho (Qa hB (Qa hC hb)))
  clear ho hB hC hb
  by_cases hlt:p<n
  ·obtain⟨g0,o0,rfl,hrA⟩:=HA.out.2.2.1 (by
    intro e
    have h1:=Qk 3 _ HA.out.2.2.2.1.three
    rw[e,HA.out.2.2.2.1.len,HA.out.1] at h1
    simp at h1;omega)
   rcases Nat.eq_zero_or_pos q with hq0|hq0
   ·have hz0:zs=[]:=List.eq_nil_of_length_eq_zero (by rw[HA.out.2.1];exact hq0)
    have hqi:¬(0:Int)< (q:Int):=by omega
    have hcv:((Cu.c zs k (n-p):Nat):Int)=min 1 ((n:Int)-p):=by
     unfold Cu.c
     rw[if_pos hz0]
     omega
    have hcr:=fun (m:Nat) (hm:m=Cu.c zs k (n-p))=>Vh (cl:=cl) HA.out.1 hrA HA.out.2.2.2.1 HR.out.2.1 HR.out.2.2.1 hlt hm
    have hcl1:=Cu.c_le zs k (n-p)
    have hcl0:=Cu.c_pos zs k (n-p) (by omega)
    obtain⟨C,hCe⟩:∃ C,C=Cu.c zs k (n-p):=⟨_,rfl⟩
    rw[← hCe] at hcv hcl1 hcr hcl0
    have HC:=hid hcr
    have HV:=hid hcv
    have h63:k+1≤maxLen:=by simp only[maxLen];omega
    have hby:(k+1)*32≤140737488355328:=by omega
    clear hz0 hCe hcr hcv hq0
    go_wp2_with
     ((with_reducible refine Qem (M:=C) (.tmp 31) (.tmp 41) HR.out.1 _ _ _ _ h63 hby HR.out.2.2.2.size ?_ ?_ ?_ ?_ ?_ ?_);rfl;rfl;rfl;rfl;(have hcv:=HV.out;omega)
      intro A9 c9 w9 ho9 hb9
      have H9:=hid (Qa ho9 hb9)
      clear ho9 hb9)
    all_goals
     go_roundg (gk-C)
     case measure=>omega
     case rel=>
      obtain⟨h1,h2⟩:=HC.out C rfl
      refine⟨k+1,p+C,A9,c9,X++[[.int .u64 p,.slice (some ⟨g0,o0+p*3,none⟩) C (cl-p)]],bs++[(es.drop p).take C],by omega,?_,rfl,?_,h1,h2,HR.out.2.2.2.trans H9.out.2⟩
      ·have hcv:=HV.out
       show Value.int .i64 _=Value.int .i64 _
       congr 1
       omega
      ·rw[List.flatten_append]
       exact H9.out.1
   ·have hqi:(0:Int)< (q:Int):=by omega
    obtain⟨r,hr⟩:∃ r,r=k % q:=⟨_,rfl⟩
    have hrq:r<q:=by rw[hr];exact Nat.mod_lt _ hq0
    have hkq:(k:Int) % (q:Int)=(r:Int):=by rw[hr];simp
    have hrz:r<zs.length:=by rw[HA.out.2.1];exact hrq
    obtain⟨z,hz⟩:∃ z,z=zs.getD r 0:=⟨_,rfl⟩
    obtain⟨gc,oc,rfl,hrc⟩:=HA.out.2.2.2.2 (by intro e;have:=congrArg List.length e;simp at this;simp[this] at hrz)
    have hc0:wr.cell? ⟨gc,oc+r,none⟩=some (.int .i64 z):=by
     have hlb:=Qo hrc (by simp;omega)
     exact Qh hrc HR.out.2.2.2 hlb r _ (by rw[hz,List.getD_eq_getElem?_getD,List.getElem?_map,List.getElem?_eq_getElem hrz];rfl)
    have hcv:((Cu.c zs k (n-p):Nat):Int)=min (max 1 (min z 64)) ((n:Int)-p):=by
     unfold Cu.c
     rw[if_neg (by intro e;rw[e] at hrz;simp at hrz),HA.out.2.1,←hr,←hz]
     omega
    have hcr:=fun (m:Nat) (hm:m=Cu.c zs k (n-p))=>Vh (cl:=cl) HA.out.1 hrA HA.out.2.2.2.1 HR.out.2.1 HR.out.2.2.1 hlt hm
    have hcl1:=Cu.c_le zs k (n-p)
    have hcl0:=Cu.c_pos zs k (n-p) (by omega)
    obtain⟨C,hCe⟩:∃ C,C=Cu.c zs k (n-p):=⟨_,rfl⟩
    rw[← hCe] at hcv hcl1 hcr hcl0
    have HZ:=hid (Qa hr (Qa hz hCe))
    have HC:=hid hcr
    have HV:=hid hcv
    have h63:k+1≤maxLen:=by simp only[maxLen];omega
    have hby:(k+1)*32≤140737488355328:=by omega
    clear hr hz hrc hrz hCe hcr hcv
    go_wp2_with
     ((with_reducible refine Qem (M:=C) (.tmp 31) (.tmp 41) HR.out.1 _ _ _ _ h63 hby HR.out.2.2.2.size ?_ ?_ ?_ ?_ ?_ ?_);rfl;rfl;rfl;rfl;(have hcv:=HV.out;omega)
      intro A9 c9 w9 ho9 hb9
      have H9:=hid (Qa ho9 hb9)
      clear ho9 hb9)
    all_goals
     go_roundg (gk-C)
     case measure=>omega
     case rel=>
      obtain⟨h1,h2⟩:=HC.out C rfl
      refine⟨k+1,p+C,A9,c9,X++[[.int .u64 p,.slice (some ⟨g0,o0+p*3,none⟩) C (cl-p)]],bs++[(es.drop p).take C],by omega,?_,rfl,?_,h1,h2,HR.out.2.2.2.trans H9.out.2⟩
      ·have hcv:=HV.out
       show Value.int .i64 _=Value.int .i64 _
       congr 1
       omega
      ·rw[List.flatten_append]
       exact H9.out.1
  ·obtain rfl:p=n:=by omega
   have hd:bs=Cu.cut zs es:=HR.out.2.2.1.done (by rw[HA.out.1];exact Nat.le_refl _)
   have HD:=hid hd
   clear hd
   have hfl:=HR.out.2.2.1.flat
   have hle:=HR.out.2.2.1.le
   have hea:=HR.out.2.2.1.each
   rw[List.take_of_length_le (by rw[HA.out.1];exact Nat.le_refl _)] at hfl
   rw[hfl,HA.out.1] at hle
   obtain⟨Ao,co,eo,hro,-⟩:=QC HR.out.1
   cases eo
   have HL:=hid (Qa hfl (Qa hle (Qa hea hro)))
   clear hfl hle hea hro
   go_wp2_with fail
   go_ret
   refine⟨Ar,cr,X,?_,HR.out.2.2.2,HL.out.2.2.2,?_,?_,?_,?_⟩
   ·rw[← HD.out,HR.out.2.2.1.len];rfl
   ·rw[← HD.out];exact HR.out.2.1.grown HR.out.2.2.2
   ·rw[← HD.out];exact HL.out.1
   ·rw[← HD.out,HR.out.2.2.1.len];exact HL.out.2.1
   ·rw[← HD.out];exact HL.out.2.2.1
namespace Mem
end Mem
theorem En.good_ok {es:List Ent}{e:Ent}(h:e∈En.good es):En.check e=0:=by
 unfold En.good at h
 have:=(List.mem_filter.1 h).2
 exact of_decide_eq_true this
theorem En.chk_zero {k:UInt8}{a b:Nat}(h:En.chk k a b=0):a≤64∧b≤256:=by
 unfold En.chk at h
 split at h
 ·cases h
 ·omega
theorem En.good_key {es:List Ent}{e:Ent}(h:e∈En.good es):e.key.length≤64∧e.val.length≤256:=En.chk_zero (En.good_ok h)
theorem En.all_of {es:List Ent}(h:∀ a∈es,En.check a=0):En.all es=0:=by
 have:∀ (es:List Ent),(∀ a∈es,En.check a=0)→es.foldl (fun e a=>En.least e (En.check a)) 0=0:=by
  intro es
  induction es with
  |nil=>intro _;rfl
  |cons a es ih=>
   intro h
   rw[List.foldl_cons,h a (by simp)]
   exact ih fun b hb=>h b (by simp[hb])
 exact this es h
theorem En.bchk_good {F:Nat}{es:List Ent}(h:∀ a∈es,En.check a=0)(h1:1≤es.length)(h2:es.length≤64)(hF:F+es.length<18446744073709551616):En.bchk F es=0:=by
 have hb:En.bfirst F es.length=0:=by unfold En.bfirst;rw[if_neg (by omega),if_neg (by omega)]
 unfold En.bchk
 rw[hb]
 clear hb h1 h2 hF
 induction es with
 |nil=>rfl
 |cons a es ih=>
  rw[List.foldl_cons,h a (by simp)]
  exact ih fun b hb=>h b (by simp[hb])
theorem Cu.err_zero {bs:List (List Ent)}(hg:∀ e∈bs.flatten,En.check e=0)(he:∀ b∈bs,1≤b.length∧b.length≤64)(hl:bs.flatten.length<1048576):∀ i,i<bs.length→Bl.err (Cu.firsts bs) bs i=0:=by
 intro i hi
 have hF:(Cu.firsts bs)[i]'(by rw[Cu.firsts_len];exact hi)=(bs.take i).flatten.length:=by simp[Cu.firsts]
 have hle:=Zg bs i
 have hbi:=he bs[i] (List.getElem_mem hi)
 rw[Bl.at_ _ _ i hi (by rw[Cu.firsts_len];exact hi),hF,En.bchk_good (fun a ha=>hg a (List.mem_flatten.2 ⟨_,List.getElem_mem hi,ha⟩)) hbi.1 hbi.2 (by omega)]
 simp
namespace Mem
end Mem
theorem Vi (q:Nat)(h:q<1048576):wrap64 ((q:Int)+1)=((q+1:Nat):Int):=by unfold wrap64;omega
theorem Qen (bs:List (List Ent))(M:Nat)(A Ac:Option Addr)(n cl q cc:Nat)(L:List (List Value))(es:List Ent)(zs:List Int)(w:World)(hbs:bs=Cu.cut zs es)(hM:bs.length=M)(hn:es.length=n)(hq:zs.length=q)(hA:Rd w A L.flatten)(hE:QK w L es)(hZ:Rd w Ac (zs.map fun z=> .int .i64 z))(hnb:n<1048576)(hcl:n≤cl)(hqb:q<9223372036854775808):
 Calls Tryz.prog 23 #[.slice A n cl,.slice Ac q cc] w fun e w'=>∃ (A':Option Addr) (c':Nat) (X:List (List Value)),e= .returned (.slice A' M c')∧Below w.heap.size w w'∧Rd w' A' X.flatten∧XA w' X (Cu.firsts bs) bs:=by
 subst hbs hM
 exact (Qcp A Ac n cl q cc L es zs w hn hq hA hE hZ hnb hcl hqb).mono fun _ _ ⟨A',c',X,h1,h2,h3,h4,_⟩=>⟨A',c',X,h1,h2,h3,h4⟩
theorem UW (n:Nat)(h1:1≤n)(h2:n≤32)(es:List Ent)(A:Option Addr)(m c:Nat)(L:List (List Value))(w:World)(hw:Qs w)(hm:es.length=m)(hA:Rd w A L.flatten)(hE:QK w L es)(hn:m+2<1048576)(h0:En.all es=0):
 Calls Tryz.prog 9 #[.int .i64 n,.slice A m c] w fun e w'=>Below w.heap.size w w'∧∃ Ar cr,e= .returned (.tuple #[.slice Ar (m+1) cr,.int .i64 0])∧Rd w' Ar (QI (Rl n es m)).flatten∧Tyd w' 42 Ar:=by
 subst hm
 refine (Yp n h1 h2 es A c L w hw hA hE hn).mono fun _ _ ⟨hb,h⟩=>⟨hb,?_⟩
 rcases h with ⟨h,-⟩|⟨-,h⟩
 ·exact absurd h0 h
 ·exact h
theorem Qcq (zs:List Int)(es:List Ent):(Cu.cut zs es).flatten=es∧(Cu.cut zs es).length≤es.length∧∀ b∈Cu.cut zs es,1≤b.length∧b.length≤64:=by
 have h:∀ (f k p:Nat) (bs:List (List Ent)),es.length≤p+f→Cu.Cutting zs es k p bs→(Cu.cut zs es).flatten=es∧(Cu.cut zs es).length≤es.length∧∀ b∈Cu.cut zs es,1≤b.length∧b.length≤64:=by
  intro f
  induction f with
  |zero=>
   intro k p bs hp hC
   have hd:=hC.done (by omega)
   have hf:=hC.flat
   rw[List.take_of_length_le (by omega)] at hf
   have hl:=hC.le
   rw[hf,←hC.len] at hl
   rw[← hd]
   exact⟨hf,hl,hC.each⟩
  |succ f ih=>
   intro k p bs hp hC
   by_cases hlt:p<es.length
   ·have:=Cu.c_pos zs k (es.length-p) (by omega)
    exact ih _ _ _ (by omega) (hC.step hlt)
   ·exact ih k p bs (by omega) hC
 exact h es.length 0 0 [] (by omega) (Cu.Cutting.start zs es)
theorem Qeo {w w':World}{p:Addr}{v:Value}(h:w.cell? p=some v)(hb:Below w.heap.size w w'):w'.cell? p=some v:=(hb.cell (World.block_lt_of_cell? w _ h)).trans h
end Go.Proofs.YtpnakfeafekneaaGreatDoor
