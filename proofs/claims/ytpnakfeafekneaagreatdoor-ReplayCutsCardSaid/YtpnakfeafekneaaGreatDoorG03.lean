/- Part 3 of this proof. -/
import Derived.WalkKit
import Derived.WalkSpells
import Derived.Deep.OwnRows
import Derived.Deep.MidRow
import Derived.Laws.ResultCell
import Derived.Deep.Draws
import Derived.Laws.CopyOwn
import Derived.Test.YtpnakfeafekneaaGreatDoorG02
set_option linter.unusedSimpArgs false
set_option linter.unusedVariables false
set_option maxHeartbeats 8000000
set_option maxRecDepth 100000
namespace Go.Proofs.YtpnakfeafekneaaGreatDoor
open Go.RowKit
section
variable {P:Program} {w w':World}
theorem World.rangeAt_of_row {b:Nat}{t:TypeId}{n:Nat}{f:Nat→Value}(h:w.rowIs b t n f)(o:Nat)(cs:List Value)(hf:∀ j,j<cs.length→cs[j]?=some (f (o+j)))(hn:o+cs.length≤n):w.rangeAt b o cs:=by
 intro j v hj
 have hl:=(List.getElem?_eq_some_iff.1 hj).1
 rw[h.cell (by omega),←hf j hl,hj]
theorem World.there_of_row {b:Nat}{t:TypeId}{n:Nat}{f:Nat→Value}(h:w.rowIs b t n f)(o k:Nat)(hn:o+k≤n):w.there b o k:=fun j hj=>⟨by rw[h.cell (by omega)];rfl,h.frozen _⟩
theorem Qo {b o:Nat}{cs:List Value}(h:w.rangeAt b o cs)(hc:0<cs.length):b<w.heap.size:=World.block_lt_of_cell? w _ (h 0 _ (List.getElem?_eq_getElem hc))
theorem Qh {B b o:Nat}{cs:List Value}(h:w.rangeAt b o cs)(hb:Below B w w')(hB:b<B):w'.rangeAt b o cs:=fun j v hv=>(hb.cell (p:=⟨b,o+j,none⟩) hB).trans (h j v hv)
theorem Qm {b o:Nat}{cs:List Value}(h:w.rangeAt b o cs)(hb:Below w.heap.size w w'):w'.rangeAt b o cs:=fun j v hv=>by
 have:=h j v hv
 exact (hb.cell (World.block_lt_of_cell? w _ this)).trans this
theorem Qc {B:Nat}{w0:World}(b:Nat)(hB:B≤b):∀ (vs:List Value) (o:Nat) (w:World),Below B w0 w→Below B w0 (w.setCells b o vs)
 |[],_,_,h=>h
 |v :: r,o,w,h=>Qc b hB r (o+1) _ (h.setCell hB v)
theorem Zh (b k:Nat)(hk:k≠b):∀ (vs:List Value) (o:Nat) (w:World),(w.setCells b o vs).heap[k]?=w.heap[k]?
 |[],_,_=>rfl
 |v :: r,o,w=>by rw[World.setCells,Zh b k hk r (o+1),Below.heap_setCell _ _ _ _ hk]
theorem Q5 {B:Nat}{w0:World}(h:Below B w0 w)(n:Nat):Below B w0 (w.drewN n):=h.trans ⟨rfl,rfl,rfl,Nat.le_refl _,fun _ _=>rfl⟩
def Blk (w:World)(g:Nat)(t:TypeId)(cs:List Value):Prop:=w.heap[g]?=some (.cells cs.toArray t (0,0))
theorem Blk.lt {g:Nat}{t:TypeId}{cs:List Value}(h:Blk w g t cs):g<w.heap.size:=by
 rcases Nat.lt_or_ge g w.heap.size with hlt|hge
 ·exact hlt
 ·unfold Blk at h;rw[Array.getElem?_eq_none hge] at h;cases h
theorem Blk.cell {g:Nat}{t:TypeId}{cs:List Value}(h:Blk w g t cs)(i:Nat):w.cell? ⟨g,i,none⟩=cs[i]?:=by
 rw[cell_of_row w g i cs.toArray t (0,0) h];simp
theorem Blk.frozen {g:Nat}{t:TypeId}{cs:List Value}(h:Blk w g t cs)(i:Nat):w.frozen? ⟨g,i,none⟩=false:=by
 unfold Blk at h
 simp[World.frozen?,h]
theorem Blk.new (w:World)(t:TypeId)(cs:List Value):Blk (w.alloc (.cells cs.toArray t)) w.heap.size t cs:=heap_alloc_new w _
theorem Blk.drewN {g:Nat}{t:TypeId}{cs:List Value}(h:Blk w g t cs)(n:Nat):Blk (w.drewN n) g t cs:=h
theorem Blk.alloc {g:Nat}{t:TypeId}{cs:List Value}(h:Blk w g t cs)(o:Obj):Blk (w.alloc o) g t cs:=(Below.heap_alloc w o g h.lt).trans h
theorem Blk.set_ {g:Nat}{t:TypeId}{cs:List Value}(h:Blk w g t cs)(i:Nat)(u:Value):Blk (w.setCell ⟨g,i,none⟩ u) g t (cs.set i u):=by
 unfold Blk at h ⊢
 simp[World.setCell,Array.getElem?_modify,h]
theorem Blk.far {g:Nat}{t:TypeId}{cs:List Value}(h:Blk w g t cs){p:Addr}(hp:g≠p.block)(u:Value):Blk (w.setCell p u) g t cs:=(Below.heap_setCell w p u g hp).trans h
theorem Blk.below {B g:Nat}{t:TypeId}{cs:List Value}(h:Blk w g t cs)(hb:Below B w w')(hg:g<B):Blk w' g t cs:=(hb.block g hg).trans h
theorem Blk.grown {g:Nat}{t:TypeId}{cs:List Value}(h:Blk w g t cs)(hb:Below w.heap.size w w'):Blk w' g t cs:=(hb.block g h.lt).trans h
theorem Blk.range {g:Nat}{t:TypeId}{cs:List Value}(h:Blk w g t cs)(xs ys zs:List Value)(e:cs=xs++(ys++zs)):w.rangeAt g xs.length ys:=fun j v hj=>by
 have hl:=(List.getElem?_eq_some_iff.1 hj).1
 rw[h.cell,e,List.getElem?_append_right (by omega),Nat.add_sub_cancel_left,List.getElem?_append_left hl,hj]
theorem Blk.whole {g:Nat}{t:TypeId}{cs:List Value}(h:Blk w g t cs):w.rangeAt g 0 cs:=fun j v hj=>by rw[h.cell,Nat.zero_add,hj]
theorem Blk.there {g:Nat}{t:TypeId}{cs:List Value}(h:Blk w g t cs)(o n:Nat)(hn:o+n≤cs.length):w.there g o n:=fun j hj=>⟨by rw[h.cell,List.getElem?_eq_getElem (by omega)];rfl,h.frozen _⟩
theorem Xm {α:Type}(L:List α)(off:Nat)(cs:List α)(h:off+cs.length≤L.length)(i:Nat):(splice L off cs)[i]?=if i<off then L[i]? else if i<off+cs.length then cs[i-off]? else L[i]?:=by
 unfold splice
 by_cases h1:i<off
 ·rw[if_pos h1,List.getElem?_append_left (by simp;omega),List.getElem?_take,if_pos h1]
 ·rw[if_neg h1,List.getElem?_append_right (by simp;omega)]
  have hl:(L.take off).length=off:=by simp;omega
  rw[hl]
  by_cases h2:i<off+cs.length
  ·rw[if_pos h2,List.getElem?_append_left (by omega)]
  ·rw[if_neg h2,List.getElem?_append_right (by omega),List.getElem?_drop]
   congr 1;omega
theorem Blk.setCells {g:Nat}{t:TypeId}:∀ (vs:List Value) (o:Nat) (cs:List Value) {w:World},Blk w g t cs→o+vs.length≤cs.length→Blk (w.setCells g o vs) g t (splice cs o vs)
 |[],o,cs,w,h,_=>by simpa [World.setCells,splice] using h
 |v :: r,o,cs,w,h,hl=>by
  have h1:=Blk.setCells r (o+1) (cs.set o v) (h.set_ o v) (by simp at hl ⊢;omega)
  have e:splice (cs.set o v) (o+1) r=splice cs o (v :: r):=by
   have ho:o<cs.length:=by simp at hl;omega
   apply List.ext_getElem?
   intro i
   rw[Xm _ _ _ (by simp at hl ⊢;omega),Xm _ _ _ hl]
   simp only[List.length_cons]
   by_cases h1:i<o
   ·rw[if_pos h1,if_pos (by omega),List.getElem?_set_ne (by omega)]
   ·by_cases h2:i=o
    ·subst h2;rw[if_pos (by omega),if_neg (by omega),if_pos (by omega)];simp[ho]
    ·rw[if_neg (by omega),if_neg h1]
     by_cases h3:i<o+(r.length+1)
     ·rw[if_pos (by omega),if_pos h3,show i-o=(i-(o+1))+1 from by omega,List.getElem?_cons_succ]
     ·rw[if_neg (by omega),if_neg h3,List.getElem?_set_ne (by omega)]
  rw[World.setCells,←e];exact h1
theorem Jl {fn:Func}{R:Ending→World→Prop}{a:Act}{p:Tmp}{ty:TypeId}(h:fn.results= #[.cell p ty])(g o:Nat)(hp:a.tmps.getD p undef= .pointer (some ⟨g,o,none⟩))
 (cs:List Value) (hc:w.rangeAt g o cs) (d:TypeDesc) (hu:P.underlying ty=some d) (hd:d.isRow=true) (hi:(P.info? ty).map (·.size)=some cs.length) (hdf:a.defers=[])
 (hR:R (.returned (.agg cs.toArray)) w):bodyPost P fn R .ret a w:=by
 refine bodyPost_ret (v:= .agg cs.toArray) ?_ hdf hR
 have hp':a.tmps[p]?.getD undef= .pointer (some ⟨g,o,none⟩):=by simpa using hp
 simp[results,h,hp',asAddr,run_loadVar_mid w g o ty cs d hc hu hd hi]
theorem YE {fn:Func}{R:Ending→World→Prop}{a:Act}{p u:Tmp}{ty:TypeId}(h:fn.results= #[.cell p ty,.tmp u])(g o:Nat)(hp:a.tmps.getD p undef= .pointer (some ⟨g,o,none⟩))
 (cs:List Value) (hc:w.rangeAt g o cs) (d:TypeDesc) (hu:P.underlying ty=some d) (hd:d.isRow=true) (hi:(P.info? ty).map (·.size)=some cs.length) (hdf:a.defers=[])
 (hR:R (.returned (.tuple #[.agg cs.toArray,a.tmps.getD u undef])) w):bodyPost P fn R .ret a w:=by
 refine bodyPost_ret (v:= .tuple #[.agg cs.toArray,a.tmps.getD u undef]) ?_ hdf hR
 rw[results_cell_tmp h,hp]
 simp[asAddr,run_loadVar_mid w g o ty cs d hc hu hd hi,Result.andThen]
structure Qu (S:Nat→Prop) (w w':World):Prop where
 os:w'.os=w.os
 tape:w'.tape=w.tape
 output:w'.output=w.output
 size:w.heap.size≤w'.heap.size
 block:∀ k,k<w.heap.size→¬S k→w'.heap[k]?=w.heap[k]?
theorem Qu.refl (S:Nat→Prop)(w:World):Qu S w w:=⟨rfl,rfl,rfl,Nat.le_refl _,fun _ _ _=>rfl⟩
theorem Qu.trans {S:Nat→Prop}{a b c:World}(h:Qu S a b)(k:Qu S b c):Qu S a c:=
 ⟨k.os.trans h.os,k.tape.trans h.tape,k.output.trans h.output,Nat.le_trans h.size k.size,fun i hi hs=>(k.block i (Nat.lt_of_lt_of_le hi h.size) hs).trans (h.block i hi hs)⟩
theorem Qu.mono {S S':Nat→Prop}(h:Qu S w w')(hs:∀ k,k<w.heap.size→S k→S' k):Qu S' w w':=⟨h.os,h.tape,h.output,h.size,fun k hk hn=>h.block k hk fun hk'=>hn (hs k hk hk')⟩
theorem Qu.of_below {S:Nat→Prop}{B:Nat}(h:Below B w w')(hB:∀ k,k<w.heap.size→¬S k→k<B):Qu S w w':=⟨h.os,h.tape,h.output,h.size,fun k hk hs=>h.block k (hB k hk hs)⟩
theorem Qu.of_grown {S:Nat→Prop}(h:Below w.heap.size w w'):Qu S w w':=Qu.of_below h fun _ hk _=>hk
theorem Qu.below {S:Nat→Prop}{B:Nat}(h:Qu S w w')(hB:B≤w.heap.size)(hs:∀ k,k<B→¬S k):Below B w w':=⟨h.os,h.tape,h.output,h.size,fun k hk=>h.block k (by omega) (hs k hk)⟩
theorem Qu.step {S:Nat→Prop}{w0:World}{B:Nat}(hw:Below B w0 w)(h:Qu S w w')(hB:B≤w.heap.size)(hs:∀ k,k<B→¬S k):Below B w0 w':=hw.trans (h.below hB hs)
theorem Qu.drewN {S:Nat→Prop}(h:Qu S w w')(n:Nat):Qu S w (w'.drewN n):=h.trans ⟨rfl,rfl,rfl,Nat.le_refl _,fun _ _ _=>rfl⟩
theorem Qu.setCell {S:Nat→Prop}(h:Qu S w w'){p:Addr}(hp:S p.block∨w.heap.size≤p.block)(u:Value):Qu S w (w'.setCell p u):=
 ⟨h.os,h.tape,h.output,by simpa [World.setCell] using h.size,fun k hk hs=>(Below.heap_setCell _ _ _ _ (fun e=>by subst e;rcases hp with hp|hp;exact hs hp;omega)).trans (h.block k hk hs)⟩
theorem Qu.setCells {S:Nat→Prop}{b:Nat}(hp:S b∨w.heap.size≤b):∀ (vs:List Value) (o:Nat) {w':World},Qu S w w'→Qu S w (w'.setCells b o vs)
 |[],_,_,h=>h
 |v :: r,o,_,h=>Qu.setCells hp r (o+1) (h.setCell (p:=⟨b,o,none⟩) hp v)
theorem Qu.set1 {b:Nat}(h:Qu (· =b) w w')(i:Nat)(u:Value):Qu (· =b) w (w'.setCell ⟨b,i,none⟩ u):=Qu.setCell (S:=(· =b)) h (.inl rfl) u
theorem Qu.setN {b:Nat}(h:Qu (· =b) w w')(o:Nat)(vs:List Value):Qu (· =b) w (w'.setCells b o vs):=Qu.setCells (S:=(· =b)) (.inl rfl) vs o h
theorem Qu.blk {S:Nat→Prop}(h:Qu S w w'){g:Nat}{t:TypeId}{cs:List Value}(hb:Blk w g t cs)(hs:¬S g):Blk w' g t cs:=(h.block g hb.lt hs).trans hb
theorem Qu.cell {S:Nat→Prop}(h:Qu S w w'){p:Addr}{v:Value}(hc:w.cell? p=some v)(hs:¬S p.block):w'.cell? p=some v:=by
 rw[← hc];exact World.cell?_of_block (w:=w) (h.block _ (World.block_lt_of_cell? w _ hc) hs)
theorem Qu.range {S:Nat→Prop}(h:Qu S w w'){b o:Nat}{cs:List Value}(hc:w.rangeAt b o cs)(hs:¬S b):w'.rangeAt b o cs:=fun j v hj=>h.cell (hc j v hj) hs
def Rd (w:World)(A:Option Addr)(cs:List Value):Prop:=cs≠[]→∃ g o,A=some ⟨g,o,none⟩∧w.rangeAt g o cs
theorem Rd.nil (w:World)(A:Option Addr):Rd w A []:=fun h=>absurd rfl h
theorem Rd.of (w:World){g o:Nat}{cs:List Value}(h:w.rangeAt g o cs):Rd w (some ⟨g,o,none⟩) cs:=fun _=>⟨g,o,rfl,h⟩
theorem Rd.grown {A:Option Addr}{cs:List Value}(h:Rd w A cs)(hb:Below w.heap.size w w'):Rd w' A cs:=fun hn=>by
 obtain⟨g,o,e,hc⟩:=h hn
 exact⟨g,o,e,Qm hc hb⟩
theorem Rd.kept {S:Nat→Prop}{A:Option Addr}{cs:List Value}(h:Rd w A cs)(hb:Qu S w w')(hs:∀ a,A=some a→cs≠[]→¬S a.block):Rd w' A cs:=fun hn=>by
 obtain⟨g,o,e,hc⟩:=h hn
 exact⟨g,o,e,hb.range hc (hs _ e hn)⟩
theorem Rd.drewN {A:Option Addr}{cs:List Value}(h:Rd w A cs)(n:Nat):Rd (w.drewN n) A cs:=h
theorem Rd.drop {A:Option Addr}{cs:List Value}(h:Rd w A cs)(k cap:Nat)(hc:cs.length≤cap):Rd w (if cap=k then A else A.map (·.add k)) (cs.drop k):=fun hn=>by
 have hk:k<cs.length:=by
  rcases Nat.lt_or_ge k cs.length with h|h
  ·exact h
  ·exact absurd (List.drop_eq_nil_of_le h) hn
 obtain⟨g,o,rfl,hr⟩:=h (fun e=>by subst e;simp at hk)
 rw[if_neg (by omega)]
 refine⟨g,o+k,by simp[Addr.add_mid],fun j v hj=>?_⟩
 rw[Nat.add_assoc]
 exact hr (k+j) v (by rw[← hj,List.getElem?_drop])
theorem Rd.take {A:Option Addr}{cs:List Value}(h:Rd w A cs)(k:Nat):Rd w A (cs.take k):=fun hn=>by
 obtain⟨g,o,e,hr⟩:=h (fun e=>by subst e;simp at hn)
 refine⟨g,o,e,fun j v hj=>hr j v ?_⟩
 rw[List.getElem?_take] at hj
 split at hj
 ·exact hj
 ·cases hj
theorem Zc {ops:Array Oper}{rest:List Oper}{o:Oper}{a:Act}{Q:Exit→Act→World→Prop}(hgd:o.guard=none)(d s:Operand)(dT sT:TypeId)
 (ho:o.op= .call {callee:= .builtin .copy,args:= #[d,s],argTypes:= #[dT,sT]}) (elem:TypeId) (hu:P.underlying dT=some (.slice elem)) (hsz:(P.info? elem).map (·.size)=some 1)
 (dp sp:Option Addr) (dLen dCap sLen sCap:Nat) (hd:a.eval d= .slice dp dLen dCap) (hs:a.eval s= .slice sp sLen sCap)
 (g off:Nat) (cur:List Value) (t:TypeId) (hg:Blk w g t cur) (cs:List Value) (hn:cs.length=Nat.min sLen dLen)
 (hdp:0<cs.length→dp=some ⟨g,off,none⟩) (hsp:Rd w sp cs) (hfit:off+cs.length≤cur.length) (h1:∀ v∈cs,v.oneCell'=true)
 (h:∀ w',Blk w' g t (splice cur off cs)→Qu (· =g) w w'→wpList P ops Q rest (a.put o.dst (.int .i64 cs.length)) w'):wpList P ops Q (o :: rest) a w:=by
 by_cases h0:cs.length=0
 ·obtain rfl:cs=[]:=List.eq_nil_of_length_eq_zero h0
  refine wpList_copy_nothing hgd d s dT sT ho elem hu hsz dp sp dLen dCap sLen sCap hd hs (by simpa using hn.symm) ?_
  exact h w (by simpa [splice] using hg) (Qu.refl _ _)
 ·have hp:0<cs.length:=by omega
  obtain rfl:=hdp hp
  obtain⟨g',o',rfl,hr⟩:=hsp (fun e=>by subst e;simp at hp)
  refine wpList_copy_own hgd d s dT sT ho elem hu hsz g off dLen dCap ⟨g',o',none⟩ sLen sCap hd hs cur.toArray t hg cs hn (fun j v hj=>by rw[Addr.add_mid];exact hr j v hj) (by simpa using hfit) h1 ?_
  have e:∀ x:List Value,x=splice cur off cs→Blk (w.setRow g x.toArray) g t (splice cur off cs):=fun x hx=>by subst hx;exact setRow_heap w g _ _ t _ hg
  refine h _ ?_ ⟨rfl,rfl,rfl,by simp[World.setRow],fun k _ hk=>setRow_other w g k _ hk⟩
  have:=setRow_heap w g _ (splice cur off cs).toArray t _ hg
  unfold Blk
  simpa [splice] using this
end
end Go.Proofs.YtpnakfeafekneaaGreatDoor
