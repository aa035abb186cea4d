/- Part 35 of this proof. -/
import Derived.ProofKit
import Derived.SizedLaws
import Derived.Carry
import Derived.Deep.Slices
import Derived.Test.YtpnakfeafekneaaGreatDoorG34
set_option linter.unusedSimpArgs false
set_option linter.unusedVariables false
set_option maxHeartbeats 8000000
set_option maxRecDepth 100000
namespace Go.Proofs.YtpnakfeafekneaaGreatDoor
open Go.ChangeShapes Go.WideShapes Go.Deep Go.RowKit
section
variable {H:Type} {enc:TypeId×Value→H} {W:World}
theorem Jg {a:Addr}(cs:List Value)(h:∀ i v,cs[i]?=some v→W.cell? (a.add i)=some v):Rd W (some a) cs:=by
 intro hn
 obtain⟨g,o,sp⟩:=a
 have h0:∃ v,cs[0]?=some v:=by
  cases cs with
  |nil=>exact absurd rfl hn
  |cons v r=>exact⟨v,rfl⟩
 obtain⟨v,hv⟩:=h0
 have hs:=World.cell?_spot (h 0 v hv)
 have:sp=none:=by simpa [Addr.add] using hs
 subst this
 exact⟨g,o,rfl,fun j v hj=>by rw[← add_plain];exact h j v hj⟩
theorem Qa1 {z:Int}(h:(Lit.int .u8 z).wf=true):b8 (UInt8.ofNat z.toNat)= .int .u8 z:=by
 simp only[Lit.wf,Bool.and_eq_true,decide_eq_true_eq] at h
 rw[show IntKind.u8.min=0 from rfl,show IntKind.u8.max=255 from rfl] at h
 show Value.int .u8 (n8 (UInt8.ofNat z.toNat))= .int .u8 z
 congr 1
 unfold n8
 rw[UInt8.toNat_ofNat']
 omega
theorem Qa2 {fuel:Nat}{v:Value}{x:DataW H×List MemPlace}(h:DataW.trod enc Tryz.prog W 0 (fun _=>true) true fuel 34 [v]=some x):
 ∃ A c,∃ zs:List UInt8,v= .slice A zs.length c∧Rd W A (zs.map b8)∧zs.length≤c∧∀ B,(∀ k∈x.1.weights Tryz.prog 34,k≤B)→zs.length≤B:=by
 rcases open_ints Tryz.underlying34 Tryz.underlying5 (by kernel_rfl) h with ⟨hcs,-⟩|⟨a,len,cap,zi,hcs,-,hl,-,hz,hx,hcell,hwf⟩
 ·refine⟨none,0,[],by simpa using hcs,Rd.nil _ _,Nat.le_refl _,fun B _=>Nat.zero_le _⟩
 ·simp only[if_true] at hz
  have hzl:((zi.take len).map fun z=>UInt8.ofNat z.toNat).length=len:=by simp;omega
  refine⟨some a,cap,(zi.take len).map fun z=>UInt8.ofNat z.toNat,?_,?_,by omega,fun B hB=>?_⟩
  ·rw[hzl];simpa using hcs
  ·refine Jg _ (fun i v hv=>?_)
   rw[List.map_map,List.getElem?_map,Option.map_eq_some_iff] at hv
   obtain⟨z,hz1,rfl⟩:=hv
   rw[List.getElem?_take] at hz1
   split at hz1
   ·rename_i hi
    have hil:=(List.getElem?_eq_some_iff.1 hz1).1
    have hc:=hcell i hil
    rw[List.getD_eq_getElem?_getD,hz1] at hc
    rw[hc]
    show _=some (b8 (UInt8.ofNat z.toNat))
    rw[Qa1 (hwf z (List.mem_of_getElem? hz1))]
    rfl
   ·cases hz1
  ·have:=hB cap (by
    rw[hx]
    simp only[DataW.weights,Tryz.underlying34,List.mem_cons]
    left
    rw[show Tryz.prog.bytesOf 5=1 from by kernel_rfl]
    simp[lits];omega)
   rw[hzl];omega
theorem Qei {fuel:Nat}{cs:List Value}{x:DataW H×List MemPlace}(h:DataW.trod enc Tryz.prog W 0 (fun _=>true) true fuel 36 cs=some x):
 ∃ e:Ent,Xu W cs e∧∀ B,(∀ k∈x.1.weights Tryz.prog 36,k≤B)→e.key.length≤B∧e.val.length≤B:=by
 obtain⟨xs,n,-,hx,hl,hlen,hf⟩:=DataW.trod_struct Tryz.underlying36 h
 rw[show Tryz.prog.cellsOf 36=3 from by kernel_rfl] at hl
 match xs,hlen,cs,hl with
 |[y0,y1,y2],_,[v0,v1,v2],_=>
  have g0:DataW.trod enc Tryz.prog W 0 (fun _=>true) true n 5 (([v0,v1,v2].drop 0).take (Tryz.prog.cellsOf 5))=some y0:=hf 0 _ rfl
  have g1:DataW.trod enc Tryz.prog W 0 (fun _=>true) true n 34 (([v0,v1,v2].drop 1).take (Tryz.prog.cellsOf 34))=some y1:=hf 1 _ rfl
  have g2:DataW.trod enc Tryz.prog W 0 (fun _=>true) true n 34 (([v0,v1,v2].drop 2).take (Tryz.prog.cellsOf 34))=some y2:=hf 2 _ rfl
  rw[show Tryz.prog.cellsOf 5=1 from by kernel_rfl] at g0
  rw[show Tryz.prog.cellsOf 34=1 from by kernel_rfl] at g1 g2
  simp only[List.drop_zero,List.drop_succ_cons,List.take_succ_cons,List.take_zero] at g0 g1 g2
  obtain⟨z,hz,-,hwf⟩:=DataW.trod_int Tryz.underlying5 g0
  simp only[List.cons.injEq,and_true] at hz
  subst hz
  obtain⟨A1,c1,z1,rfl,r1,hc1,b1⟩:=Qa2 g1
  obtain⟨A2,c2,z2,rfl,r2,hc2,b2⟩:=Qa2 g2
  refine⟨⟨UInt8.ofNat z.toNat,z1,z2⟩,⟨A1,c1,A2,c2,by rw[Qa1 hwf],r1,r2,hc1,hc2⟩,fun B hB=>?_⟩
  have hw:∀ k,(k∈y1.1.weights Tryz.prog 34∨k∈y2.1.weights Tryz.prog 34)→k∈x.1.weights Tryz.prog 36:=by
   intro k hk
   rw[hx]
   simp only[DataW.weights,Tryz.underlying36,List.map_cons,List.map_nil,DataW.weightsEach,List.mem_append]
   rcases hk with hk|hk
   ·exact .inr (.inl hk)
   ·exact .inr (.inr (.inl hk))
  exact⟨b1 B (fun k hk=>hB k (hw k (.inl hk))),b2 B (fun k hk=>hB k (hw k (.inr hk)))⟩
theorem Yy {a:Addr}(f:Nat→List Value)(hf:∀ i,(f i).length=3):∀ n,(∀ i,i<n→∀ j v,(f i)[j]?=some v→W.cell? (a.add (i*3+j))=some v)→∀ k v,(((List.range n).map f).flatten)[k]?=some v→W.cell? (a.add k)=some v
 |0,_,k,v,hk=>by simp at hk
 |n+1,h,k,v,hk=>by
  have hl:((List.range n).map f).flatten.length=n*3:=by
   rw[Qk 3 _ (by intro x hx;obtain⟨i,-,rfl⟩:=List.mem_map.1 hx;exact hf i)];simp
  rw[List.range_succ,List.map_append,List.flatten_append] at hk
  by_cases hkn:k<n*3
  ·rw[List.getElem?_append_left (by omega)] at hk
   exact Yy f hf n (fun i hi=>h i (by omega)) k v hk
  ·rw[List.getElem?_append_right (by omega),hl] at hk
   have:=h n (by omega) (k-n*3) v (by simpa using hk)
   rw[show n*3+(k-n*3)=k from by omega] at this
   exact this
theorem Jh {P:Program}{e:TypeId}:∀ {ds:List (DataW H)} {d:DataW H},d∈ds→∀ {k:Nat},k∈d.weights P e→k∈DataW.weightsAll P e ds
 |d0 :: ds,d,hd,k,hk=>by
  simp only[DataW.weightsAll,List.mem_append]
  rcases List.mem_cons.1 hd with rfl|hd
  ·exact .inl hk
  ·exact .inr (Jh hd hk)
theorem Qck {fuel:Nat}{v:Value}{x:DataW H×List MemPlace}(h:DataW.trod enc Tryz.prog W 0 (fun _=>true) true fuel 22 [v]=some x):
 ∃ A m c L,∃ es:List Ent,v= .slice A m c∧es.length=m∧m≤c∧Rd W A L.flatten∧QK W L es∧∀ B,(∀ k∈x.1.weights Tryz.prog 22,k≤B)→∀ e∈es,e.key.length≤B∧e.val.length≤B:=by
 rcases open_slice Tryz.underlying22 h with ⟨hcs,-⟩|⟨a,len,cap,m,n,D,Pl,hcs,-,hl,-,hmm,hx,hel⟩
 ·exact⟨none,0,0,[],[],by simpa using hcs,rfl,Nat.le_refl _,Rd.nil _ _,⟨rfl,fun i x p h=>by simp at h⟩,fun B _ e he=>by cases he⟩
 ·simp only[if_true] at hmm
  subst hmm
  have hq:∀ i,∃ q:List Value×Ent,q.1.length=3∧(i<m→(∀ j v,q.1[j]?=some v→W.cell? (a.add (i*3+j))=some v)∧Xu W q.1 q.2∧∀ B,(∀ k∈(D i).weights Tryz.prog 36,k≤B)→q.2.key.length≤B∧q.2.val.length≤B):=by
   intro i
   by_cases hi:i<m
   ·obtain⟨cs',h1,h2⟩:=hel i hi
    rw[show Tryz.prog.cellsOf 36=3 from by kernel_rfl] at h1
    obtain⟨-,hlen,hcell⟩:=World.cells?_some h1
    obtain⟨e,he,hb⟩:=Qei h2
    refine⟨(cs',e),hlen,fun _=>⟨fun j v hj=>?_,he,hb⟩⟩
    have hj':cs'[j]?=some v:=hj
    have hj3:j<3:=by have:=(List.getElem?_eq_some_iff.1 hj').1;omega
    have:=hcell j hj3
    rw[hj',add_add] at this
    exact this
   ·exact⟨([.nilFunc,.nilFunc,.nilFunc],⟨0,[],[]⟩),rfl,fun h=>absurd h hi⟩
  obtain⟨q,hq⟩:=Classical.axiomOfChoice hq
  refine⟨some a,len,m,(List.range len).map fun i=>(q i).1,(List.range len).map fun i=>(q i).2,by simpa using hcs,by simp,hl,?_,⟨by simp,?_⟩,fun B hB e he=>?_⟩
  ·exact Jg _ (Yy (fun i=>(q i).1) (fun i=>(hq i).1) len (fun i hi=>((hq i).2 (by omega)).1))
  ·intro i y e h1 h2
   rw[List.getElem?_map,Option.map_eq_some_iff] at h1 h2
   obtain⟨i1,hi1,rfl⟩:=h1
   obtain⟨i2,hi2,rfl⟩:=h2
   rw[hi1] at hi2
   cases hi2
   have:i1<len:=List.mem_range.1 (List.mem_of_getElem? hi1)
   exact ((hq i1).2 (by omega)).2.1
  ·obtain⟨i,hi,rfl⟩:=List.mem_map.1 he
   have hil:=List.mem_range.1 hi
   refine ((hq i).2 (by omega)).2.2 B (fun k hk=>hB k ?_)
   rw[hx]
   simp only[DataW.weights,Tryz.underlying22,List.mem_cons,List.mem_append]
   right;left
   exact Jh (List.mem_map.2 ⟨i,hi,rfl⟩) hk
end
end Go.Proofs.YtpnakfeafekneaaGreatDoor
