/- Part 10 of this proof. -/
import Derived.Maps.AppendAt
import Derived.OwnWalk
import Derived.Test.YtpnakfeafekneaaGreatDoorG06
set_option linter.unusedSimpArgs false
set_option linter.unusedVariables false
set_option maxHeartbeats 8000000
set_option maxRecDepth 100000
namespace Go.Proofs.YtpnakfeafekneaaGreatDoor
open Go.RowKit
section
variable {P:Program} {w w':World}
theorem YG {t ty e:TypeId}{i:TypeInfo}{base size:Nat}(ht:P.underlying t=some (.slice e))(hi:P.info? e=some i)(v:Value)(n:Nat)(xs:List Value)(hown:w.ownsRow base e size v n xs)(A:Option Addr)(c:Nat)
 (hA:A=none):(Builtin.append_ #[t,t] ty #[v,.slice A 0 c]).run P w= .ok v w:=by
 subst hA
 rcases hown.2 with ⟨rfl,rfl⟩|⟨g,cap,cur,rfl,_,_,hnc,_⟩
 ·simp[Builtin.append_,run_underlying ht,sizeOf,typeInfo,hi,Builtin.lenOf,Builtin.firstCells]
 ·simp[Builtin.append_,run_underlying ht,sizeOf,typeInfo,hi,Builtin.lenOf,Builtin.firstCells,hnc,storeCells]
theorem Qak {base:Nat}{t ty e:TypeId}{z:Value}{size bytes:Nat}(ht:P.underlying t=some (.slice e))(hinfo:(P.info? e).map (fun i=>(i.zero,i.size,i.bytes))=some (some z,size,bytes))(hzs:z.cells.size=size)(hsz:0<size)
 {v:Value} {n:Nat} {xs:List Value} (hown:w.ownsRow base e size v n xs) {A:Option Addr} {m:Nat} (c:Nat) {news:List Value} (hl:news.length=m*size) (hr:Rd w A news) (h1:∀ u∈news,u.oneCell'=true)
 (h63:n+m≤maxLen) (hbytes:(n+m)*bytes≤140737488355328) (hbase:base≤w.heap.size):
 ∃ v' w',(Builtin.append_ #[t,t] ty #[v,.slice A m c]).run P w= .ok v' w'∧w'.ownsRow base e size v' (n+m) (xs++news)∧w.grownBy w' v.ownBlock∧(v'.ownBlock=v.ownBlock∨v'.ownBlock=some w.heap.size)∧(v'= .slice none 0 0↔v= .slice none 0 0∧m=0):=by
 obtain⟨i,hi,hz,hsize,hby⟩:=info_parts hinfo
 rcases Nat.eq_zero_or_pos m with h0|h0
 ·subst h0
  obtain rfl:news=[]:=List.eq_nil_of_length_eq_zero (by simpa using hl)
  cases A with
  |none=>exact⟨v,w,YG ht hi v n xs hown none c rfl,by simpa using hown,World.grownBy.refl w _,.inl rfl,by simp⟩
  |some ad=>
   obtain⟨v',w',a1,a2,a3,a4,a5⟩:=run_append_own_at (P:=P) w base t ty e i z size bytes ht hi hz hsize hby hzs hsz v n xs hown ad 0 c [] hl (by simp) (by simp) h63 hbytes hbase
   exact⟨v',w',a1,a2,a3,a5,a4⟩
 ·have hn:news≠[]:=fun e=>by
   subst e
   have:=Nat.mul_pos h0 hsz
   simp only[List.length_nil] at hl
   omega
  obtain⟨g,o,rfl,hc⟩:=hr hn
  obtain⟨v',w',a1,a2,a3,a4,a5⟩:=run_append_own_at (P:=P) w base t ty e i z size bytes ht hi hz hsize hby hzs hsz v n xs hown ⟨g,o,none⟩ m c news hl (fun j u hj=>by rw[Addr.add_mid];exact hc j u hj) h1 h63 hbytes hbase
  exact⟨v',w',a1,a2,a3,a5,a4⟩
theorem Q1 {ops:Array Oper}{rest:List Oper}{o:Oper}{a:Act}{Q:Exit→Act→World→Prop}(s x:Operand)(t:TypeId){base:Nat}{e:TypeId}{z:Value}{size bytes:Nat}
 (ht:P.underlying t=some (.slice e)) (hinfo:(P.info? e).map (fun i=>(i.zero,i.size,i.bytes))=some (some z,size,bytes)) (hzs:z.cells.size=size) (hsz:0<size)
 {v:Value} {n:Nat} {xs:List Value} (hown:w.ownsRow base e size v n xs) {A:Option Addr} (m c:Nat) {news:List Value} (hl:news.length=m*size) (hr:Rd w A news) (h1:∀ u∈news,u.oneCell'=true)
 (h63:n+m≤maxLen) (hbytes:(n+m)*bytes≤140737488355328) (hbase:base≤w.heap.size)
 (hgd:o.guard=none) (ho:o.op= .call {callee:= .builtin .append,args:= #[s,x],argTypes:= #[t,t]}) (hs:a.eval s=v) (hx:a.eval x= .slice A m c)
 (h:∀ v' w',w'.ownsRow base e size v' (n+m) (xs++news)→w.grownBy w' v.ownBlock→(v'.ownBlock=v.ownBlock∨v'.ownBlock=some w.heap.size)→(v'= .slice none 0 0↔v= .slice none 0 0∧m=0)→wpList P ops Q rest (a.put o.dst v') w'):wpList P ops Q (o :: rest) a w:=by
 refine wpList_plain hgd fun K hK=>?_
 obtain⟨v',w',hrn,h2,h3,h4,h5⟩:=Qak (P:=P) (ty:=o.type) ht hinfo hzs hsz hown c hl hr h1 h63 hbytes hbase
 unfold Oper.wp execOp
 simp only[ho,resolve,invoke,builtin,Sem.run_bind,Sem.run_pure,Result.andThen_ok,List.map_toArray,List.map_cons,List.map_nil,hs,hx,hrn]
 exact hK _ _ (h v' w' h2 h3 h4 h5)
theorem Qn {row:Option Nat}(h:w.grownBy w' row):Qu (fun k=>row=some k) w w':=⟨h.os,h.tape,h.output,h.size,fun k hk hn=>h.block k hk (fun e=>hn e.symm)⟩
theorem QC {base:Nat}{e:TypeId}{size n:Nat}{v:Value}{xs:List Value}(h:w.ownsRow base e size v n xs):∃ A c,v= .slice A n c∧Rd w A xs∧n≤c:=by
 rcases h.2 with ⟨rfl,rfl⟩|⟨g,cap,cur,rfl,_,hh,hnc,_⟩
 ·have:xs=[]:=List.eq_nil_of_length_eq_zero (by simpa using h.1)
  subst this
  exact⟨none,0,rfl,Rd.nil _ _,Nat.le_refl _⟩
 ·refine⟨_,cap,rfl,fun _=>⟨g,0,rfl,fun j v hj=>?_⟩,hnc⟩
  have:=h.cells (g:=g) rfl j v hj
  rwa [Addr.add_mid] at this
theorem XM {S:Nat→Prop}{base:Nat}{e:TypeId}{size n:Nat}{v:Value}{xs:List Value}(h:w.ownsRow base e size v n xs)(hk:Qu S w w')(hs:∀ k,v.ownBlock=some k→¬S k):w'.ownsRow base e size v n xs:=by
 refine⟨h.1,?_⟩
 rcases h.2 with h2|⟨g,cap,cur,hv,hg,hh,r⟩
 ·exact .inl h2
 ·have hlt:=(h.lt g (by rw[hv];rfl)).2
  exact .inr ⟨g,cap,cur,hv,hg,by rw[hk.block g hlt (hs g (by rw[hv];rfl))];exact hh,r⟩
theorem Qg {base:Nat}{e:TypeId}{size n:Nat}{v:Value}{xs:List Value}(h:w.ownsRow base e size v n xs)(hb:Below w.heap.size w w'):w'.ownsRow base e size v n xs:=
 XM (S:=fun _=>False) h (Qu.of_grown hb) (fun _ _=>id)
theorem Xi {base base':Nat}{e:TypeId}{size n:Nat}{v:Value}{xs:List Value}(h:w.ownsRow base e size v n xs)(hs:∀ k,v.ownBlock=some k→base'≤k):w.ownsRow base' e size v n xs:=by
 refine⟨h.1,?_⟩
 rcases h.2 with h2|⟨g,cap,cur,hv,hg,r⟩
 ·exact .inl h2
 ·exact .inr ⟨g,cap,cur,hv,hs g (by rw[hv];rfl),r⟩
theorem Xz {base:Nat}{e t:TypeId}{size n g:Nat}{v:Value}{xs cs:List Value}(h:w.ownsRow base e size v n xs)(hb:Blk w g t cs)(hne:e≠t):v.ownBlock≠some g:=by
 rcases h.2 with ⟨rfl,_⟩|⟨g',cap,cur,rfl,_,hh,_⟩
 ·simp[Value.ownBlock]
 ·intro he
  have:g'=g:=by simpa [Value.ownBlock] using he
  subst this
  unfold Blk at hb
  rw[hh] at hb
  injection hb with hb
  injection hb with _ ht
  exact hne ht
theorem Qu.trans' {S S':Nat→Prop}{a b c:World}(h:Qu S a b)(k:Qu S' b c)(hs:∀ k,k<a.heap.size→S' k→S k):Qu S a c:=
 ⟨k.os.trans h.os,k.tape.trans h.tape,k.output.trans h.output,Nat.le_trans h.size k.size,fun i hi hn=>(k.block i (Nat.lt_of_lt_of_le hi h.size) (fun h'=>hn (hs i hi h'))).trans (h.block i hi hn)⟩
end
end Go.Proofs.YtpnakfeafekneaaGreatDoor
