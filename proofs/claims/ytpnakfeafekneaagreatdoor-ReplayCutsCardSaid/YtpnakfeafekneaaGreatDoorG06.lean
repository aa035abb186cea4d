/- Part 6 of this proof. -/
import Derived.Deep.WholeRow
import Derived.Test.YtpnakfeafekneaaGreatDoorG03
import Derived.Test.YtpnakfeafekneaaGreatDoorG04
set_option linter.unusedSimpArgs false
set_option linter.unusedVariables false
set_option maxHeartbeats 8000000
set_option maxRecDepth 100000
namespace Go.Proofs.YtpnakfeafekneaaGreatDoor
open Go.RowKit
section
variable {P:Program}
theorem QN {e:TypeId}{s:Nat}(hs:(P.info? e).map (·.size)=some s)(w:World):(sizeOf e).run P w= .ok s w:=by
 cases hq:P.info? e with
 |none=>simp[hq] at hs
 |some i=>
  have:i.size=s:=by simpa [hq] using hs
  simp[sizeOf,typeInfo,hq,this]
theorem Z3 {T e:TypeId}{n:Nat}(hT:P.underlying T=some (.array n e))(hs:(P.info? e).map (·.size)=some 1)(b o k:Nat)(hk:k<n)(w:World):
 (Instr.sliceAt T (.pointer (some ⟨b,o,none⟩)) (some (.int .i64 k)) none none).run P w= .ok (.slice (some ⟨b,o+k,none⟩) (n-k) (n-k)) w:=by
 have h1:(0:Int)≤(k:Int)∧(k:Int)≤(n:Int):=by omega
 simp[Instr.sliceAt,Instr.sureAddr,run_underlying hT,Instr.sliceBounds,Instr.sliceBound,asIntOf,QN hs,Addr.add_mid,h1,show ¬n=k from by omega]
 omega
theorem QH {T e:TypeId}{n:Nat}(hT:P.underlying T=some (.array n e))(hs:(P.info? e).map (·.size)=some 1)(b o k:Nat)(hk:k≤n)(w:World):
 (Instr.sliceAt T (.pointer (some ⟨b,o,none⟩)) none (some (.int .i64 k)) none).run P w= .ok (.slice (some ⟨b,o,none⟩) k n) w:=by
 have h1:(0:Int)≤(k:Int)∧(k:Int)≤(n:Int):=by omega
 by_cases h0:n=0
 ·simp[Instr.sliceAt,Instr.sureAddr,run_underlying hT,Instr.sliceBounds,Instr.sliceBound,asIntOf,QN hs,h1,h0]
  omega
 ·simp[Instr.sliceAt,Instr.sureAddr,run_underlying hT,Instr.sliceBounds,Instr.sliceBound,asIntOf,QN hs,h1,h0,Addr.add]
  omega
theorem Vm {T e:TypeId}(hT:P.underlying T=some (.slice e))(hs:(P.info? e).map (·.size)=some 1)(A:Option Addr)(n c k:Nat)(hk:k≤n)(w:World):
 (Instr.slice T (.slice A n c) (some (.int .i64 k)) none none).run P w= .ok (.slice (if c=k then A else A.map (·.add k)) (n-k) (c-k)) w:=by
 have h1:(0:Int)≤(k:Int)∧(k:Int)≤(n:Int):=by omega
 simp[Instr.slice,run_underlying hT,Instr.sliceBounds,Instr.sliceBound,asIntOf,QN hs,h1]
 omega
theorem Qe {c:Code}{Q:Exit→Act→World→Prop}{a:Act}{w:World}(Φ:World→Prop)(h0:Φ w)(h:∀ w',Φ w'→c.wp P Q a w'):c.wp P Q a w:=h w h0
theorem Qbb (a:Addr)(n:Nat):(a.add n).block=a.block:=by unfold Addr.add;split<;>rfl
theorem Qi (l:List UInt8):∀ v∈l.map b8,v.oneCell'=true:=by
 intro v hv
 obtain⟨x,_,rfl⟩:=List.mem_map.1 hv
 rfl
theorem Qf {ops:Array Oper}{rest:List Oper}{op:Oper}{a:Act}{w:World}{Q:Exit→Act→World→Prop}(ty:TypeId)(x:Operand)(b o:Nat)(cs:List Value)(n:Nat)(d:TypeDesc)(hl:cs.length=n)(hc:w.rangeAt b o cs)
 (hu:P.underlying ty=some d) (hd:d.isRow=true) (hi:(P.info? ty).map (·.size)=some n) (hgd:op.guard=none) (ho:op.op= .load ty x) (hx:a.eval x= .pointer (some ⟨b,o,none⟩))
 (h:wpList P ops Q rest (a.put op.dst (.agg cs.toArray)) w):wpList P ops Q (op :: rest) a w:=
 wpList_load_mid hgd ty x ho b o hx cs d hc hu hd (by rw[hl];exact hi) h
theorem Qv {ops:Array Oper}{rest:List Oper}{op:Oper}{a:Act}{w:World}{Q:Exit→Act→World→Prop}(ty:TypeId)(x y:Operand)(b o:Nat)(cs:List Value)(n:Nat)(hl:cs.length=n)(ht:w.there b o n)
 (hi:(P.info? ty).map (·.size)=some n) (h1:∀ v∈cs,v.oneCell'=true) (hgd:op.guard=none) (ho:op.op= .store ty x y) (hx:a.eval x= .pointer (some ⟨b,o,none⟩)) (hy:a.eval y= .agg cs.toArray)
 (h:wpList P ops Q rest (a.put op.dst undef) (w.setCells b o cs)):wpList P ops Q (op :: rest) a w:=
 wpList_store_mid hgd ty x y ho b o cs.toArray hx hy (by subst hl;exact ht) (by subst hl;exact hi) (all_oneCell_toArray h1) h
theorem Qw {ops:Array Oper}{rest:List Oper}{op:Oper}{a:Act}{w:World}{Q:Exit→Act→World→Prop}(ty:TypeId)(x y:Operand)(c:Array Value)(t:TypeId)(cs:List Value)(n:Nat)(hl:cs.length=n)(hc:c.size=n)
 (hi:(P.info? ty).map (·.size)=some n) (h1:∀ v∈cs,v.oneCell'=true) (hgd:op.guard=none) (ho:op.op= .store ty x y) (hx:a.eval x= .pointer (some ⟨w.heap.size,0,none⟩)) (hy:a.eval y= .agg cs.toArray)
 (h:wpList P ops Q rest (a.put op.dst undef) (w.alloc (.cells cs.toArray t))):wpList P ops Q (op :: rest) a (w.alloc (.cells c t)):=
 wpList_store_row hgd ty x y ho w.heap.size cs.toArray hx hy t c (heap_alloc_new _ _) (by subst hl;exact hi) (by subst hl;simpa using hc) (all_oneCell_toArray h1) (by rw[World.setRow_alloc_new];exact h)
theorem QD {fn:Func}{R:Ending→World→Prop}{a:Act}{w:World}{p:Tmp}{ty:TypeId}(g o:Nat)(cs:List Value)(n:Nat)(d:TypeDesc)(hl:cs.length=n)(hc:w.rangeAt g o cs)(hu:P.underlying ty=some d)(hd:d.isRow=true)
 (hi:(P.info? ty).map (·.size)=some n) (h:fn.results= #[.cell p ty]) (hp:a.tmps.getD p undef= .pointer (some ⟨g,o,none⟩)) (hdf:a.defers=[]) (hR:R (.returned (.agg cs.toArray)) w):bodyPost P fn R .ret a w:=
 Jl h g o hp cs hc d hu hd (by rw[hl];exact hi) hdf hR
theorem Q9 {fn:Func}{R:Ending→World→Prop}{a:Act}{w:World}{p u:Tmp}{ty:TypeId}(g o:Nat)(cs:List Value)(n:Nat)(d:TypeDesc)(hl:cs.length=n)(hc:w.rangeAt g o cs)(hu:P.underlying ty=some d)(hd:d.isRow=true)
 (hi:(P.info? ty).map (·.size)=some n) (h:fn.results= #[.cell p ty,.tmp u]) (hp:a.tmps.getD p undef= .pointer (some ⟨g,o,none⟩)) (hdf:a.defers=[]) (hR:R (.returned (.tuple #[.agg cs.toArray,a.tmps.getD u undef])) w):bodyPost P fn R .ret a w:=
 YE h g o hp cs hc d hu hd (by rw[hl];exact hi) hdf hR
theorem K5 {w:World}{b:Nat}{t:TypeId}{n:Nat}{f:Nat→Value}(h:w.rowIs b t n f)(l:List Value)(hl:l.length=n)(hf:∀ i,i<n→l[i]?=some (f i)):Blk w b t l:=by
 obtain⟨c,hc,hn,hg⟩:=h
 have e:c=l.toArray:=by
  apply Array.ext_getElem?
  intro i
  by_cases hi:i<n
  ·rw[hg i hi];simp[hf i hi]
  ·rw[Array.getElem?_eq_none (by omega),Array.getElem?_eq_none (by simp;omega)]
 unfold Blk
 rw[← e];exact hc
theorem XL {α:Type}(L cs:List α)(h:L.length=cs.length):splice L 0 cs=cs:=by simp[splice,h]
theorem ZH (w:World)(A C:Obj)(t:TypeId)(cs:List Value):Blk (((w.alloc A).alloc (.cells cs.toArray t)).alloc C) (w.heap.size+1) t cs:=by
 have h:=(Blk.new (w.alloc A) t cs).alloc C
 rwa [show (w.alloc A).heap.size=w.heap.size+1 by simp] at h
theorem Xf {w:World}{b:Nat}{t:TypeId}{l:List Value}{n:Nat}{f:Nat→Value}(h:Blk w b t l)(hl:l.length=n)(hf:∀ i,i<n→l[i]?=some (f i)):w.rowIs b t n f:=
 ⟨l.toArray,h,by simpa using hl,fun i hi=>by simpa using hf i hi⟩
end
section
variable {P:Program} {C:World→Prop}
theorem Zr {o:Oper}{a:Act}{K:Act→Prop}(ty:TypeId)(x:Operand)(b o':Nat)(cs:List Value)(d:TypeDesc)(hc:∀ w,C w→w.rangeAt b o' cs)(hu:P.underlying ty=some d)(hd:d.isRow=true)(hi:(P.info? ty).map (·.size)=some cs.length)
 (ho:o.op= .load ty x) (hx:a.eval x= .pointer (some ⟨b,o',none⟩)) (hk:K (a.put o.dst (.agg cs.toArray))):o.quiet P a C K:=
 ⟨_,fun w hw=>by
   unfold Oper.quietAt execOp
   simp only[ho,hx,Instr.loadAt,Instr.sureAddr,Sem.run_bind,Sem.run_pure,Result.andThen_ok,run_loadVar_mid w b o' ty cs d (hc w hw) hu hd hi]
   exact⟨rfl,rfl⟩,hk⟩
theorem QG {o:Oper}{a:Act}{K:Act→Prop}(ty:TypeId)(x:Operand)(b o':Nat)(cs:List Value)(n:Nat)(d:TypeDesc)(hl:cs.length=n)(hc:∀ w,C w→w.rangeAt b o' cs)(hu:P.underlying ty=some d)(hd:d.isRow=true)
 (hi:(P.info? ty).map (·.size)=some n) (ho:o.op= .load ty x) (hx:a.eval x= .pointer (some ⟨b,o',none⟩)) (hk:K (a.put o.dst (.agg cs.toArray))):o.quiet P a C K:=
 Zr ty x b o' cs d hc hu hd (by rw[hl];exact hi) ho hx hk
theorem QA {w:World}{b o:Nat}{cs:List Value}(h:w.rangeAt b o cs):∀ w',(∃ s:Fut w,w'=s.v)→w'.rangeAt b o cs:=by
 rintro _ ⟨s,rfl⟩;exact Qm h s.below
end
end Go.Proofs.YtpnakfeafekneaaGreatDoor
