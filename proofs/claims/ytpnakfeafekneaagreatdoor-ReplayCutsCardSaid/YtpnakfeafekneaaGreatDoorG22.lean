/- Part 22 of this proof. -/
import Derived.Test.YtpnakfeafekneaaGreatDoorG09
import Derived.Test.YtpnakfeafekneaaGreatDoorG21
set_option linter.unusedSimpArgs false
set_option linter.unusedVariables false
set_option maxHeartbeats 8000000
set_option maxRecDepth 100000
namespace Go.Proofs.YtpnakfeafekneaaGreatDoor
open Go.RowKit
section
variable {P:Program}
theorem Ze {T e:TypeId}{size:Nat}(hT:P.underlying T=some (.slice e))(hs:(P.info? e).map (·.size)=some size)(A:Option Addr)(n c a b m:Nat)(h1:a≤b)(h2:b≤m)(h3:m≤c)(w:World):
 ∃ v,∀ w,(Instr.slice T (.slice A n c) (some (.int .i64 a)) (some (.int .i64 b)) (some (.int .i64 m))).run P w= .ok v w:=by
 have g1:(0:Int)≤(a:Int)∧(a:Int)≤(b:Int):=by omega
 have g2:(0:Int)≤(b:Int)∧(b:Int)≤(m:Int):=by omega
 have g3:(0:Int)≤(m:Int)∧(m:Int)≤(c:Int):=by omega
 exact⟨.slice (if m=a then A else A.map (·.add (a*size))) (b-a) (m-a),fun w=>by simp[Instr.slice,run_underlying hT,Instr.sliceBounds,Instr.sliceBound,asIntOf,QN hs,g1,g2,g3,h1,h2,h3]⟩
theorem XC {T e:TypeId}{size:Nat}(hT:P.underlying T=some (.slice e))(hs:(P.info? e).map (·.size)=some size)(g o n c a b:Nat)(h1:a≤b)(h2:b≤c)(h3:a<c)(w:World):
 (Instr.slice T (.slice (some ⟨g,o,none⟩) n c) (some (.int .i64 a)) (some (.int .i64 b)) none).run P w= .ok (.slice (some ⟨g,o+a*size,none⟩) (b-a) (c-a)) w:=by
 have g1:(0:Int)≤(a:Int)∧(a:Int)≤(b:Int):=by omega
 have g2:(0:Int)≤(b:Int)∧(b:Int)≤(c:Int):=by omega
 simp[Instr.slice,run_underlying hT,Instr.sliceBounds,Instr.sliceBound,asIntOf,QN hs,g1,g2,h1,h2,Addr.add_mid,show ¬c=a from by omega]
theorem Yk {ops:Array Oper}{rest:List Oper}{o:Oper}{a:Act}{w:World}{Q:Exit→Act→World→Prop}(hgd:o.guard=none)(s:Operand)(T elem:TypeId)(i:TypeInfo)(z:Value)
 (ho:o.op= .call {callee:= .builtin .clear,args:= #[s],argTypes:= #[T]}) (hu:P.underlying T=some (.slice elem)) (hi:P.info? elem=some i) (hz:i.zero=some z) (g off cap:Nat) (zs:List Value) (hzs:Builtin.zeroCells z.cells 1=zs.toArray)
 (hs:a.eval s= .slice (some ⟨g,off,none⟩) 1 cap) (ht:w.there g off zs.length) (h1:∀ v∈zs,v.oneCell'=true)
 (h:wpList P ops Q rest (a.put o.dst (.tuple #[])) (w.setCells g off zs)):wpList P ops Q (o :: rest) a w:=by
 refine wpList_plain hgd fun K hK=>?_
 have hst:=run_storeCells_cells (P:=P) g off zs 0 w (fun j hj=>by rw[Nat.add_zero];exact (ht j hj).1) (fun j hj=>by rw[Nat.add_zero];exact (ht j hj).2) h1
 have hr:(Builtin.clear_ #[T] o.type #[.slice (some ⟨g,off,none⟩) 1 cap]).run P w= .ok (.tuple #[]) (w.setCells g off zs):=by
  simp[Builtin.clear_,run_underlying hu,zeroValue,typeInfo,hi,hz,hzs,hst]
 unfold Oper.wp execOp
 simp only[ho,resolve,invoke,builtin,Sem.run_bind,Sem.run_pure,Result.andThen_ok,List.map_toArray,List.map_cons,List.map_nil,hs,hr]
 exact hK _ _ h
theorem Zf {T e:TypeId}{size:Nat}(hT:P.underlying T=some (.slice e))(hs:(P.info? e).map (·.size)=some size)(ty:TypeId)(g i c k c2:Nat)(X:Option Addr)(D:List Value)(w:World)(hk:i+k≤c)(hl:D.length=k*size)
 (hX:∃ a,X=some a∧∀ j v,D[j]?=some v→w.cell? (a.add j)=some v) (ht:w.there g (i*size) D.length) (h1:∀ v∈D,v.oneCell'=true):
 (Builtin.append_ #[T,T] ty #[.slice (some ⟨g,0,none⟩) i c,.slice X k c2]).run P w= .ok (.slice (some ⟨g,0,none⟩) (i+k) c) (w.setCells g (i*size) D):=by
 obtain⟨a,rfl,ha⟩:=hX
 have hf:=run_firstCells_some (P:=P) w size k a k c2 D hl ha
 have hst:=run_storeCells_cells (P:=P) g (i*size) D 0 w (fun j hj=>by rw[Nat.add_zero];exact (ht j hj).1) (fun j hj=>by rw[Nat.add_zero];exact (ht j hj).2) h1
 cases hq:P.info? e with
 |none=>simp[hq] at hs
 |some inf=>
  have hi:inf.size=size:=by simpa [hq] using hs
  simp[Builtin.append_,run_underlying hT,sizeOf,typeInfo,hq,hi,Builtin.lenOf,hk,hf,Addr.add_mid,hst]
end
theorem VB {α:Type}(R X D Z:List α)(a b:Nat)(ha:R.take a=X)(hX:X.length=a)(hb:b=a+D.length)(hl:b+Z.length≤R.length):(splice (splice R a D) b Z).take b=X++D:=by
 have h1:=Q2 R a D (by omega)
 rw[Yj _ _ _ _ (Nat.le_refl _) (by omega),hb,Jc _ _ _ (by omega),ha]
theorem YL:Builtin.zeroCells (.agg #[.slice none 0 0,.slice none 0 0]:Value).cells 1=([.slice none 0 0,.slice none 0 0]:List Value).toArray:=by kernel_rfl
theorem VC (B n i:Nat)(v:Value)(xs:List Value)(w:World)(h:w.ownsRow B 166 2 v n xs)(hx1:∀ u∈xs,u.oneCell'=true)(hn:n<1048576)(hi:i<n)(hB:B≤w.heap.size):
 Calls Tryz.prog 168 #[v,.int .i64 i,.int .i64 ((i:Int)+1)] w fun e w'=>JD B (n-1) 166 w v (xs.take (i*2)++xs.drop ((i+1)*2)) e w':=by
 obtain⟨g,c,cur,rfl,hm⟩:=XS h (by omega)
 have hmm:=hm.hm
 have hcn:=hm.hc
 have hxl:=hm.xl
 unfold maxLen at hmm
 obtain⟨X3,s1⟩:=Ze (P:=Tryz.prog) (T:=110) Tryz.underlying110 Qx (some ⟨g,0,none⟩) n c i (i+1) n (by omega) (by omega) (by omega) w
 rw[show ((i+1:Nat):Int)=(i:Int)+1 from rfl] at s1
 have s2:=Q7 (P:=Tryz.prog) (T:=110) Tryz.underlying110 Qx g 0 n c i (by omega)
 obtain⟨X,s3,hX⟩:∃ X,(∀ w,(Instr.slice 110 (.slice (some ⟨g,0,none⟩) n c) (some (.int .i64 ((i:Int)+1))) none none).run Tryz.prog w= .ok (.slice X (n-(i+1)) (c-(i+1))) w)∧∃ a:Addr,X=some a∧(i+1<n→a=⟨g,(i+1)*2,none⟩):=by
  rcases Nat.lt_or_ge (i+1) c with h1|h1
  ·have:=Qz (P:=Tryz.prog) (T:=110) Tryz.underlying110 Qx g 0 n c (i+1) (by omega) h1
   simp only[Nat.zero_add] at this
   exact⟨_,this,_,rfl,fun _=>rfl⟩
  ·have:=Xp (P:=Tryz.prog) (T:=110) Tryz.underlying110 Qx (some ⟨g,0,none⟩) n c (i+1) (by omega)
   rw[if_pos (by omega)] at this
   exact⟨_,this,_,rfl,fun h=>by omega⟩
 have s4:=XC (P:=Tryz.prog) (T:=110) Tryz.underlying110 Qx g 0 (n-1) c (n-1) n (by omega) (by omega) (by omega)
 rw[show n-(n-1)=1 by omega,Nat.zero_add] at s4
 obtain⟨N1,hN1⟩:∃ k,k=n-1:=⟨_,rfl⟩
 obtain⟨LK,hLK⟩:∃ k,k=n-(i+1):=⟨_,rfl⟩
 obtain⟨CK,hCK⟩:∃ k,k=c-(i+1):=⟨_,rfl⟩
 obtain⟨CZ,hCZ⟩:∃ k,k=c-N1:=⟨_,rfl⟩
 obtain⟨oZ,hoZ⟩:∃ k,k=N1*2:=⟨_,rfl⟩
 obtain⟨oB,hoB⟩:∃ k,k=i*2:=⟨_,rfl⟩
 obtain⟨oA,hoA⟩:∃ k,k=(i+1)*2:=⟨_,rfl⟩
 rw[← hLK,←hCK] at s3
 rw[← hN1,←hCZ,←hoZ] at s4
 rw[← hoA] at hX
 rw[← hoB,←hoA,←hN1]
 have hiz:i+LK=N1:=by omega
 have hD:(xs.drop oA).length=LK*2:=by rw[List.length_drop];omega
 have hap:∀ (w':World) (ty:TypeId),Blk w' g 166 cur→(Builtin.append_ #[110,110] ty #[.slice (some ⟨g,0,none⟩) i c,.slice X LK CK]).run Tryz.prog w'= .ok (.slice (some ⟨g,0,none⟩) N1 c) (w'.setCells g oB (xs.drop oA)):=by
  intro w' ty hb
  obtain⟨a,rfl,ha⟩:=hX
  have:=Zf (P:=Tryz.prog) (T:=110) Tryz.underlying110 Qx ty g i c LK CK (some a) (xs.drop oA) w' (by omega) hD ⟨a,rfl,fun j v hj=>?_⟩ (hb.there _ _ (by have:=hm.len;rw[hD];omega)) (fun v hv=>hx1 v (List.mem_of_mem_drop hv))
  ·rw[hiz,←hoB] at this
   exact this
  ·have hjl:j< (xs.drop oA).length:=(List.getElem?_eq_some_iff.1 hj).1
   rw[ha (by rw[hD] at hjl;omega),Addr.add_mid]
   rw[List.getElem?_drop,←hm.hx] at hj
   have:=hb.takes _ (oA+j) v hj
   rwa [Nat.zero_add] at this
 obtain⟨i0,hi0,hz0,hzs,hzb⟩:=info_parts X4
 have HI:=hid (Qa hi0 hz0)
 have HO:=hid (Qa hm (Qa hap (Qa hD (Qa hxl (Qa hN1 (Qa hoZ (Qa hoB (Qa hoA hLK))))))))
 clear hm hap hD hxl hN1 hLK hCK hCZ hoZ hoB hoA hX hiz h hi0 hz0 hzs hzb hx1
 have j2:((i:Int) == (i:Int)+1)=false:=by rw[beq_eq_false_iff_ne];omega
 go_enter Tryz.func168,Tryz.ntmps168
 go_upto_region 5 with fail
 refine Qq 6 (by kernel_rfl) (by kernel_rfl) ?_
 dsimp only[List.take_succ_cons,List.take_zero]
 repeat (go_big_quiet_step (fail))
 refine wpQuiet_nil ?_
 rintro _ ⟨s,rfl⟩
 have hb0:=HO.out.1.blk.grown s.below
 have ha0:=HO.out.2.1 s.v
 have hbA:=hb0.setCells (xs.drop oA) oB _ (by have:=HO.out;have:=this.1.len;omega)
 have hlA:(splice cur oB (xs.drop oA)).length=c*2:=by
  rw[Q2 _ _ _ (by have:=HO.out;have:=this.1.len;omega)];exact HO.out.1.len
 have hrz:=fun ty=>ha0 ty hb0
 have htZ:(s.v.setCells g oB (xs.drop oA)).there g oZ ([.slice none 0 0,.slice none 0 0]:List Value).length:=hbA.there _ _ (by rw[hlA];show _+2≤_;have:=HO.out;omega)
 have hbZ:=hbA.setCells ([.slice none 0 0,.slice none 0 0]:List Value) oZ _ (by rw[hlA];show _+2≤_;have:=HO.out;omega)
 have hsl:=s.below
 have HC:=hid (Qa htZ (Qa hbZ hsl))
 clear hb0 ha0 hbA hlA htZ hbZ hsl
 simp only[List.drop_succ_cons,List.drop_zero]
 go_wp2_with (first
  |(at_builtin;refine Lib.wpList_append_run _ rfl _ _ _ _ rfl _ _ rfl rfl _ _ (hrz _) ?_)
  |((with_reducible refine Yk ?_ (.tmp 31) 110 166 i0 (.agg #[.slice none 0 0,.slice none 0 0]) ?_ Tryz.underlying110 HI.out.1 HI.out.2 g oZ CZ ([.slice none 0 0,.slice none 0 0]) YL ?_ HC.out.1 ?_ ?_);rfl;rfl;rfl;(intro u hu;rcases List.mem_cons.1 hu with rfl|hu;rfl;rw[List.mem_singleton] at hu;subst hu;rfl)))
 go_ret
 refine⟨_,_,rfl,?_,?_,by have:=HO.out;omega,fun a e=>by cases e;exact HO.out.1.hB,Jd HC.out.2.2,HC.out.2.1.tyd⟩
 ·exact Qc _ HO.out.1.hB _ _ _ (Qc _ HO.out.1.hB _ _ _ (HC.out.2.2.mono hB))
 ·have e1:=VB cur (xs.take oB) (xs.drop oA) ([.slice none 0 0,.slice none 0 0]:List Value) oB oZ (by rw[← HO.out.1.hx,List.take_take];congr 1;have:=HO.out;omega) (by have:=HO.out;rw[List.length_take];omega) (by have:=HO.out;omega) (by show _+2≤_;have:=HO.out;have:=this.1.len;omega)
  rw[← e1]
  exact Rd.of _ (HC.out.2.1.takes _)
theorem YM:Builtin.zeroCells (.nilIface:Value).cells 1=([.nilIface]:List Value).toArray:=by kernel_rfl
theorem VD (B n i:Nat)(v:Value)(xs:List Value)(w:World)(h:w.ownsRow B 157 1 v n xs)(hx1:∀ u∈xs,u.oneCell'=true)(hn:n<1048576)(hi:i<n)(hB:B≤w.heap.size):
 Calls Tryz.prog 169 #[v,.int .i64 i,.int .i64 ((i:Int)+1)] w fun e w'=>JD B (n-1) 157 w v (xs.take (i*1)++xs.drop ((i+1)*1)) e w':=by
 obtain⟨g,c,cur,rfl,hm⟩:=XS h (by omega)
 have hmm:=hm.hm
 have hcn:=hm.hc
 have hxl:=hm.xl
 unfold maxLen at hmm
 obtain⟨X3,s1⟩:=Ze (P:=Tryz.prog) (T:=169) Tryz.underlying169 Qy (some ⟨g,0,none⟩) n c i (i+1) n (by omega) (by omega) (by omega) w
 rw[show ((i+1:Nat):Int)=(i:Int)+1 from rfl] at s1
 have s2:=Q7 (P:=Tryz.prog) (T:=169) Tryz.underlying169 Qy g 0 n c i (by omega)
 obtain⟨X,s3,hX⟩:∃ X,(∀ w,(Instr.slice 169 (.slice (some ⟨g,0,none⟩) n c) (some (.int .i64 ((i:Int)+1))) none none).run Tryz.prog w= .ok (.slice X (n-(i+1)) (c-(i+1))) w)∧∃ a:Addr,X=some a∧(i+1<n→a=⟨g,(i+1)*1,none⟩):=by
  rcases Nat.lt_or_ge (i+1) c with h1|h1
  ·have:=Qz (P:=Tryz.prog) (T:=169) Tryz.underlying169 Qy g 0 n c (i+1) (by omega) h1
   simp only[Nat.zero_add] at this
   exact⟨_,this,_,rfl,fun _=>rfl⟩
  ·have:=Xp (P:=Tryz.prog) (T:=169) Tryz.underlying169 Qy (some ⟨g,0,none⟩) n c (i+1) (by omega)
   rw[if_pos (by omega)] at this
   exact⟨_,this,_,rfl,fun h=>by omega⟩
 have s4:=XC (P:=Tryz.prog) (T:=169) Tryz.underlying169 Qy g 0 (n-1) c (n-1) n (by omega) (by omega) (by omega)
 rw[show n-(n-1)=1 by omega,Nat.zero_add] at s4
 obtain⟨N1,hN1⟩:∃ k,k=n-1:=⟨_,rfl⟩
 obtain⟨LK,hLK⟩:∃ k,k=n-(i+1):=⟨_,rfl⟩
 obtain⟨CK,hCK⟩:∃ k,k=c-(i+1):=⟨_,rfl⟩
 obtain⟨CZ,hCZ⟩:∃ k,k=c-N1:=⟨_,rfl⟩
 obtain⟨oZ,hoZ⟩:∃ k,k=N1*1:=⟨_,rfl⟩
 obtain⟨oB,hoB⟩:∃ k,k=i*1:=⟨_,rfl⟩
 obtain⟨oA,hoA⟩:∃ k,k=(i+1)*1:=⟨_,rfl⟩
 rw[← hLK,←hCK] at s3
 rw[← hN1,←hCZ,←hoZ] at s4
 rw[← hoA] at hX
 rw[← hoB,←hoA,←hN1]
 have hiz:i+LK=N1:=by omega
 have hD:(xs.drop oA).length=LK*1:=by rw[List.length_drop];omega
 have hap:∀ (w':World) (ty:TypeId),Blk w' g 157 cur→(Builtin.append_ #[169,169] ty #[.slice (some ⟨g,0,none⟩) i c,.slice X LK CK]).run Tryz.prog w'= .ok (.slice (some ⟨g,0,none⟩) N1 c) (w'.setCells g oB (xs.drop oA)):=by
  intro w' ty hb
  obtain⟨a,rfl,ha⟩:=hX
  have:=Zf (P:=Tryz.prog) (T:=169) Tryz.underlying169 Qy ty g i c LK CK (some a) (xs.drop oA) w' (by omega) hD ⟨a,rfl,fun j v hj=>?_⟩ (hb.there _ _ (by have:=hm.len;rw[hD];omega)) (fun v hv=>hx1 v (List.mem_of_mem_drop hv))
  ·rw[hiz,←hoB] at this
   exact this
  ·have hjl:j< (xs.drop oA).length:=(List.getElem?_eq_some_iff.1 hj).1
   rw[ha (by rw[hD] at hjl;omega),Addr.add_mid]
   rw[List.getElem?_drop,←hm.hx] at hj
   have:=hb.takes _ (oA+j) v hj
   rwa [Nat.zero_add] at this
 obtain⟨i0,hi0,hz0,hzs,hzb⟩:=info_parts ZF
 have HI:=hid (Qa hi0 hz0)
 have HO:=hid (Qa hm (Qa hap (Qa hD (Qa hxl (Qa hN1 (Qa hoZ (Qa hoB (Qa hoA hLK))))))))
 clear hm hap hD hxl hN1 hLK hCK hCZ hoZ hoB hoA hX hiz h hi0 hz0 hzs hzb hx1
 have j2:((i:Int) == (i:Int)+1)=false:=by rw[beq_eq_false_iff_ne];omega
 go_enter Tryz.func169,Tryz.ntmps169
 go_upto_region 5 with fail
 refine Qq 6 (by kernel_rfl) (by kernel_rfl) ?_
 dsimp only[List.take_succ_cons,List.take_zero]
 repeat (go_big_quiet_step (fail))
 refine wpQuiet_nil ?_
 rintro _ ⟨s,rfl⟩
 have hb0:=HO.out.1.blk.grown s.below
 have ha0:=HO.out.2.1 s.v
 have hbA:=hb0.setCells (xs.drop oA) oB _ (by have:=HO.out;have:=this.1.len;omega)
 have hlA:(splice cur oB (xs.drop oA)).length=c*1:=by
  rw[Q2 _ _ _ (by have:=HO.out;have:=this.1.len;omega)];exact HO.out.1.len
 have hrz:=fun ty=>ha0 ty hb0
 have htZ:(s.v.setCells g oB (xs.drop oA)).there g oZ ([.nilIface]:List Value).length:=hbA.there _ _ (by rw[hlA];show _+1≤_;have:=HO.out;omega)
 have hbZ:=hbA.setCells ([.nilIface]:List Value) oZ _ (by rw[hlA];show _+1≤_;have:=HO.out;omega)
 have hsl:=s.below
 have HC:=hid (Qa htZ (Qa hbZ hsl))
 clear hb0 ha0 hbA hlA htZ hbZ hsl
 simp only[List.drop_succ_cons,List.drop_zero]
 go_wp2_with (first
  |(at_builtin;refine Lib.wpList_append_run _ rfl _ _ _ _ rfl _ _ rfl rfl _ _ (hrz _) ?_)
  |((with_reducible refine Yk ?_ (.tmp 31) 169 157 i0 (.nilIface) ?_ Tryz.underlying169 HI.out.1 HI.out.2 g oZ CZ ([.nilIface]) YM ?_ HC.out.1 ?_ ?_);rfl;rfl;rfl;(intro u hu;rw[List.mem_singleton] at hu;subst hu;rfl)))
 go_ret
 refine⟨_,_,rfl,?_,?_,by have:=HO.out;omega,fun a e=>by cases e;exact HO.out.1.hB,Jd HC.out.2.2,HC.out.2.1.tyd⟩
 ·exact Qc _ HO.out.1.hB _ _ _ (Qc _ HO.out.1.hB _ _ _ (HC.out.2.2.mono hB))
 ·have e1:=VB cur (xs.take oB) (xs.drop oA) ([.nilIface]:List Value) oB oZ (by rw[← HO.out.1.hx,List.take_take];congr 1;have:=HO.out;omega) (by have:=HO.out;rw[List.length_take];omega) (by have:=HO.out;omega) (by show _+1≤_;have:=HO.out;have:=this.1.len;omega)
  rw[← e1]
  exact Rd.of _ (HC.out.2.1.takes _)
namespace Hm
theorem bm_pop (n t:Nat)(m:List Pr):Nib.pop (bm n t m)=(digs n t m).length:=bmf_pop _
theorem bm_lt (n t:Nat)(m:List Pr):bm n t m<65536:=bmf_lt _
theorem bm_ne {n t:Nat}{m:List Pr}(h:m≠[]):bm n t m≠0:=by
 cases m with
 |nil=>exact absurd rfl h
 |cons p r=>exact bmf_ne (i:=dig n t p) (dig_lt _ _ _) (has_iff.2 ⟨p,by simp,rfl⟩)
theorem node_branch {n f t:Nat}{m:List Pr}(h:single n m=false):node n (f+1) t m=Dg.branch n (bm n t m) ((digs n t m).map fun i=>node n f (t+1) (child n t i m)):=by
 rw[node,if_neg (by rw[h];decide)]
theorem ne_of_many {n:Nat}{m:List Pr}(h:single n m=false):m≠[]:=by
 intro e;subst e;simp[single] at h
end Hm
theorem ZD [Inhabited LoT]{S:Nat→Prop}(b n f t:Nat)(h1:1≤n)(h2:n≤32)(m:List Pr)(hs:Hm.single n m=false)(val:Nat→Value)(A:Option Addr)(c k q:Nat)(w:World)(hw:Qs w)(hb:XF w b n)(hk:k=(Hm.digs n t m).length)(hq:q=Hm.bm n t m)(hA:Rd w A ((Hm.digs n t m).map val))(hc:k≤c)(hS:(∀ a,A=some a→S a.block)∧Tyd w 157 A)
 (hv:∀ i∈Hm.digs n t m,QL S w n f (t+1) (val i) (Hm.child n t i m)):
 Calls Tryz.prog 166 #[ptr b,.int .u16 q,.slice A k c] w fun e w'=>∃ b',e= .returned (ptr b')∧Below w.heap.size w w'∧QL S w' n (f+1) t (nbr b') m:=by
 subst hk
 subst hq
 have hl:((Hm.digs n t m).map val).length=((Hm.digs n t m).map fun i=>Hm.node n f (t+1) (Hm.child n t i m)).length:=by simp
 have:=Qdn b n h1 h2 (Hm.bm n t m) (Hm.bm_lt _ _ _) A c ((Hm.digs n t m).map val) ((Hm.digs n t m).map fun i=>Hm.node n f (t+1) (Hm.child n t i m)) w hw hb hl hA
  (fun i v d h3 h4=>by
    rw[List.getElem?_map] at h3 h4
    cases hd:(Hm.digs n t m)[i]? with
    |none=>rw[hd] at h3;cases h3
    |some j=>
     rw[hd] at h3 h4
     simp only[Option.map_some,Option.some.injEq] at h3 h4
     subst h3 h4
     exact (hv j (List.mem_of_getElem? hd)).sumAt h2)
  (fun d hd=>by
    obtain⟨j,_,rfl⟩:=List.mem_map.1 hd
    exact⟨node_len n h2 _ _ _,Ks n h2 _ _ _⟩)
  (by rw[Hm.bm_pop];simp) (Hm.bm_ne (Hm.ne_of_many hs)) (by rw[List.length_map];exact Hm.digs_le _)
 rw[List.length_map] at this
 refine this.mono ?_
 rintro e w' ⟨b',z,he,hb',hblk⟩
 refine⟨b',he,hb',.inr ⟨hs,b',A,c,z,val,rfl,?_,hA.grown hb',hc,⟨hS.1,hS.2.grown hb'⟩,fun i hi=>QL.grown hb' (hv i hi)⟩⟩
 rw[Hm.node_branch hs]
 exact hblk
namespace Hm
theorem two_lt:∀ i j,i<16→j<16→i<j→(List.range 16).filter (fun k=>k == i || k == j)=[i,j]:=by
 have h:∀ i:Fin 16,∀ j:Fin 16,i.1<j.1→(List.range 16).filter (fun k=>k == i.1 || k == j.1)=[i.1,j.1]:=by decide +kernel
 exact fun i j hi hj hij=>h ⟨i,hi⟩ ⟨j,hj⟩ hij
theorem two_eq:∀ i,i<16→(List.range 16).filter (fun k=>k == i || k == i)=[i]:=by
 have h:∀ i:Fin 16,(List.range 16).filter (fun k=>k == i.1 || k == i.1)=[i.1]:=by decide +kernel
 exact fun i hi=>h ⟨i,hi⟩
theorem bmf_false:bmf (fun _=>false) 16=0:=by decide +kernel
theorem bmf_two [Inhabited LoT](i j:Nat)(hi:i<16)(hj:j<16):bmf (fun k=>k == i || k == j) 16=Nib.add (Nib.add 0 i) j:=by
 rw[← bmf_false,bmf_add _ i hi,bmf_add _ j hj]
 exact bmf_congr fun k _=>by simp
end Hm
theorem Zd.dig [Inhabited LoT]{w:World}{n b:Nat}{m:List Pr}{of:List UInt8}{A:Option Addr}{c:Nat}{L:List (List Value)}(h:Zd w n b m of A c L)(t:Nat){p:Pr}(hp:p∈m):Hm.dig n t p=Dg.digit of t:=by
 unfold Hm.dig;rw[h.key p hp]
theorem Zd.has [Inhabited LoT]{w:World}{n b:Nat}{m:List Pr}{of:List UInt8}{A:Option Addr}{c:Nat}{L:List (List Value)}(h:Zd w n b m of A c L)(t i:Nat):Hm.has n t m i=(i == Dg.digit of t):=by
 rw[Bool.eq_iff_iff,Hm.has_iff,beq_iff_eq]
 constructor
 ·rintro⟨p,hp,rfl⟩;exact h.dig t hp
 ·rintro rfl
  cases hm:m with
  |nil=>exact absurd hm h.ne
  |cons p r=>exact⟨p,by simp,h.dig t (by rw[hm];simp)⟩
theorem Zd.child [Inhabited LoT]{w:World}{n b:Nat}{m:List Pr}{of:List UInt8}{A:Option Addr}{c:Nat}{L:List (List Value)}(h:Zd w n b m of A c L)(t:Nat):Hm.child n t (Dg.digit of t) m=m:=by
 unfold Hm.child
 rw[List.filter_eq_self]
 intro p hp
 rw[h.dig t hp];simp
theorem Zd.child_other [Inhabited LoT]{w:World}{n b:Nat}{m:List Pr}{of:List UInt8}{A:Option Addr}{c:Nat}{L:List (List Value)}(h:Zd w n b m of A c L)(t i:Nat)(hi:i≠Dg.digit of t):Hm.child n t i m=[]:=by
 unfold Hm.child
 rw[List.filter_eq_nil_iff]
 intro p hp
 rw[h.dig t hp];simp;omega
theorem Zd.form [Inhabited LoT]{w:World}{n b:Nat}{m:List Pr}{of:List UInt8}{A:Option Addr}{c:Nat}{L:List (List Value)}(h:Zd w n b m of A c L)(h2:n≤32):Dg.form n of=true:=by
 cases hm:m with
 |nil=>exact absurd hm h.ne
 |cons p r=>rw[← h.key p (by rw[hm];simp)];exact Dg.form_sum _ _ h2
theorem WD (x y:UInt8)(h1:x.toNat / 16 % 16=y.toNat / 16 % 16)(h2:x.toNat % 16=y.toNat % 16):x=y:=by
 have:=x.toNat_lt
 have:=y.toNat_lt
 exact UInt8.toNat_inj.1 (by omega)
theorem KO [Inhabited LoT]{n:Nat}(h2:n≤32){d e:List UInt8}(hd:d.length=32)(he:e.length=32)(fd:Dg.form n d=true)(fe:Dg.form n e=true)(h:∀ i,i<2*n→Dg.digit d i=Dg.digit e i):d=e:=by
 apply List.ext_getElem?
 intro k
 by_cases hk:k<32
 ·by_cases hn:k<n
  ·have a0:=h (2*k) (by omega)
   have a1:=h (2*k+1) (by omega)
   unfold Dg.digit at a0 a1
   rw[show 2*k / 2=k by omega,show 2*k % 2=0 by omega] at a0
   rw[show (2*k+1) / 2=k by omega,show (2*k+1) % 2=1 by omega] at a1
   rw[List.getD_eq_getElem?_getD,List.getD_eq_getElem?_getD,List.getElem?_eq_getElem (show k<d.length by omega),List.getElem?_eq_getElem (show k<e.length by omega)] at a0 a1
   rw[List.getElem?_eq_getElem (show k<d.length by omega),List.getElem?_eq_getElem (show k<e.length by omega)]
   congr 1
   refine WD _ _ ?_ ?_
   ·simpa using a0
   ·simpa using a1
  ·rw[Km n d hd h2 fd k (by omega) hk,Km n e he h2 fe k (by omega) hk]
 ·rw[List.getElem?_eq_none (by omega),List.getElem?_eq_none (by omega)]
theorem Kw (j:Nat)(hj:j<16)(w:World):
 Calls Tryz.prog 167 #[.int .u16 0,.int .i64 j] w fun e w'=>e= .returned (.int .u16 (Nib.add 0 j))∧w=w':=ZJ 0 j (by omega) hj w
structure ZT (n t:Nat) (ma mb m:List Pr) (i j:Nat):Prop where
 many:Hm.single n m=false
 has:∀ k,Hm.has n t m k=(k == i || k == j)
 bm:Hm.bm n t m=Nib.add (Nib.add 0 i) j
 ci:i≠j→Hm.child n t i m=ma
 cj:i≠j→Hm.child n t j m=mb
 same:i=j→Hm.child n t i m=m
theorem Qf0 [Inhabited LoT]{w:World}{n pa pb:Nat}{ma:List Pr}{x:Pr}{ofa ofb:List UInt8}{A A2:Option Addr}{c c2:Nat}{L L2:List (List Value)}(ha:Zd w n pa ma ofa A c L)(hb:Zd w n pb [x] ofb A2 c2 L2)(hs:Hm.Srt n ma)(hne:ofa≠ofb)(t:Nat):
 ZT n t ma [x] (Hm.ins n x ma) (Dg.digit ofa t) (Dg.digit ofb t):=by
 have kx:Dg.key n x.key=ofb:=hb.key x (by simp)
 have dx:Hm.dig n t x=Dg.digit ofb t:=hb.dig t (by simp)
 have hmem:∃ p,p∈ma:=by
  cases hm:ma with
  |nil=>exact absurd hm ha.ne
  |cons p r=>exact⟨p,by simp⟩
 obtain⟨p,hp⟩:=hmem
 have hhas:∀ k,Hm.has n t (Hm.ins n x ma) k=(k == Dg.digit ofa t || k == Dg.digit ofb t):=fun k=>by rw[Hm.has_ins,ha.has,dx]
 refine⟨?_,hhas,?_,?_,?_,?_⟩
 ·cases hsg:Hm.single n (Hm.ins n x ma) with
  |false=>rfl
  |true=>
   have h:=(Hm.single_ins.1 hsg).2 p hp
   rw[ha.key p hp,kx] at h
   exact absurd h hne
 ·rw[← Hm.bmf_two _ _ (Dg.digit_lt _ _) (Dg.digit_lt _ _)]
  exact Hm.bmf_congr fun k _=>hhas k
 ·intro hd
  rw[Hm.child_ins hs,if_neg (by rw[dx];omega),ha.child]
 ·intro hd
  rw[Hm.child_ins hs,if_pos dx,ha.child_other t _ (by omega)]
  rfl
 ·intro hd
  rw[Hm.child_ins hs,if_pos (by rw[dx];exact hd.symm),ha.child]
theorem ZT.digs_lt [Inhabited LoT]{n t i j:Nat}{ma mb m:List Pr}(h:ZT n t ma mb m i j)(hi:i<16)(hj:j<16)(hij:i<j):Hm.digs n t m=[i,j]:=by
 unfold Hm.digs
 rw[← Hm.two_lt i j hi hj hij]
 exact List.filter_congr fun k _=>h.has k
theorem ZT.digs_gt [Inhabited LoT]{n t i j:Nat}{ma mb m:List Pr}(h:ZT n t ma mb m i j)(hi:i<16)(hj:j<16)(hij:j<i):Hm.digs n t m=[j,i]:=by
 unfold Hm.digs
 rw[← Hm.two_lt j i hj hi hij]
 exact List.filter_congr fun k _=>by rw[h.has k,Bool.or_comm]
theorem ZT.digs_eq [Inhabited LoT]{n t i j:Nat}{ma mb m:List Pr}(h:ZT n t ma mb m i j)(hi:i<16)(hij:i=j):Hm.digs n t m=[i]:=by
 unfold Hm.digs
 rw[← Hm.two_eq i hi]
 exact List.filter_congr fun k _=>by rw[h.has k,←hij]
theorem Zd.bk [Inhabited LoT]{w:World}{n b:Nat}{m:List Pr}{of:List UInt8}{A:Option Addr}{c:Nat}{L:List (List Value)}(h:Zd w n b m of A c L):Bk w n (nbk b) m:=⟨b,of,A,c,L,rfl,h⟩
abbrev ifp (T:TypeId)(p:Nat):Value:= .iface T (ptr p)
theorem QL.shape [Inhabited LoT]{S:Nat→Prop}{w:World}{n f t:Nat}{v:Value}{m:List Pr}(h:QL S w n f t v m):∃ T p,v=ifp T p:=by
 cases f with
 |zero=>obtain⟨b,_,_,_,_,e,_⟩:=h;exact⟨_,_,e⟩
 |succ f=>
  rcases h with ⟨_,b,_,_,_,_,e,_⟩|⟨_,b,_,_,_,_,e,_⟩
  ·exact⟨_,_,e⟩
  ·exact⟨_,_,e⟩
theorem Un [Inhabited LoT]{S:Nat→Prop}(b n f t u v pu pv q:Nat)(h1:1≤n)(h2:n≤32)(mu mv m:List Pr)(w:World)(hd:Hm.digs n t m=[u,v])(huv:u≠v)(hs:Hm.single n m=false)(cu:Hm.child n t u m=mu)(cv:Hm.child n t v m=mv)(hu:Bk w n (nbk pu) mu)(hv:Bk w n (nbk pv) mv)(hq:q=Hm.bm n t m)(hw:Qs w)(hm:XF w b n)(hS:S w.heap.size):
 Calls Tryz.prog 166 #[ptr b,.int .u16 q,.slice (some ⟨w.heap.size,0,none⟩) 2 2] (w.alloc (.cells #[nbk pu,nbk pv] 157)) fun e w'=>∃ b',e= .returned (ptr b')∧Below w.heap.size w w'∧QL S w' n (f+1) t (nbr b') m:=by
 have hbx:=Qb w (.cells #[nbk pu,nbk pv] 157)
 have hmap:(Hm.digs n t m).map (fun k=>if k=u then nbk pu else nbk pv)=[nbk pu,nbk pv]:=by
  rw[hd];simp[Ne.symm huv]
 refine (ZD b n f t h1 h2 m hs (fun k=>if k=u then nbk pu else nbk pv) (some ⟨w.heap.size,0,none⟩) 2 2 q _ (hw.below hbx) (hm.grown hbx) (by rw[hd];rfl) hq (by rw[hmap];exact Rd.of _ (Blk.new w _ _).whole) (Nat.le_refl _) ⟨fun a e=>by cases e;exact hS,(Blk.new w _ _).tyd⟩ ?_).mono ?_
 ·intro i hi
  rw[hd] at hi
  rcases List.mem_cons.1 hi with rfl|hi
  ·rw[if_pos rfl,cu];exact (hu.grown hbx).ht _ _
  ·rw[List.mem_singleton] at hi
   subst hi
   rw[if_neg (Ne.symm huv),cv];exact (hv.grown hbx).ht _ _
 ·rintro e w' ⟨b',he,hb',hh⟩
  exact⟨b',he,gro hbx hb',hh⟩
theorem Qdr [Inhabited LoT]{S:Nat→Prop}(b n f t u q T p:Nat)(h1:1≤n)(h2:n≤32)(mu m:List Pr)(w:World)(hd:Hm.digs n t m=[u])(hs:Hm.single n m=false)(cu:Hm.child n t u m=mu)(hu:QL S w n f (t+1) (ifp T p) mu)(hq:q=Hm.bm n t m)(hw:Qs w)(hm:XF w b n)(hS:S w.heap.size):
 Calls Tryz.prog 166 #[ptr b,.int .u16 q,.slice (some ⟨w.heap.size,0,none⟩) 1 1] (w.alloc (.cells #[ifp T p] 157)) fun e w'=>∃ b',e= .returned (ptr b')∧Below w.heap.size w w'∧QL S w' n (f+1) t (nbr b') m:=by
 have hbx:=Qb w (.cells #[ifp T p] 157)
 have hmap:(Hm.digs n t m).map (fun _=>ifp T p)=[ifp T p]:=by rw[hd];rfl
 refine (ZD b n f t h1 h2 m hs (fun _=>ifp T p) (some ⟨w.heap.size,0,none⟩) 1 1 q _ (hw.below hbx) (hm.grown hbx) (by rw[hd];rfl) hq (by rw[hmap];exact Rd.of _ (Blk.new w _ _).whole) (Nat.le_refl _) ⟨fun a e=>by cases e;exact hS,(Blk.new w _ _).tyd⟩ ?_).mono ?_
 ·intro i hi
  rw[hd,List.mem_singleton] at hi
  subst hi
  rw[cu];exact hu.grown hbx
 ·rintro e w' ⟨b',he,hb',hh⟩
  exact⟨b',he,gro hbx hb',hh⟩
theorem Qb1 [Inhabited LoT]{S:Nat→Prop}(b n:Nat)(h1:1≤n)(h2:n≤32)(ma:List Pr)(x:Pr)(ofa ofb:List UInt8)(hs:Hm.Srt n ma)(hne:ofa≠ofb):∀ (f t pa pb:Nat) (A A2:Option Addr) (c c2:Nat) (L L2:List (List Value)) (w:World),f+t=2*n→(∀ k,w.heap.size≤k→S k)→(∀ i,i<t→Dg.digit ofa i=Dg.digit ofb i)→
 Zd w n pa ma ofa A c L→Zd w n pb [x] ofb A2 c2 L2→Qs w→XF w b n→
 Calls Tryz.prog 160 #[ptr b,.int .i64 t,ptr pa,ptr pb] w fun e w'=>∃ T p,e= .returned (ifp T p)∧Below w.heap.size w w'∧QL S w' n f t (ifp T p) (Hm.ins n x ma):=by
 intro f
 induction f with
 |zero=>
  intro t pa pb A A2 c c2 L L2 w hft hS hpre ha hb hw hm
  exfalso
  apply hne
  exact KO h2 ha.len hb.len (ha.form h2) (hb.form h2) (fun i hi=>hpre i (by omega))
 |succ f ih=>
  intro t pa pb A A2 c c2 L L2 w hft hS hpre ha hb hw hm
  have IH:=hid ih
  have hpg:=Qf0 ha hb hs hne t
  have HLa:=hid (show (ofa.map b8).length=32 by simp[ha.len])
  have HLb:=hid (show (ofb.map b8).length=32 by simp[hb.len])
  have hra:=Y1 ha.blk
  have hrb:=Y1 hb.blk
  have hda:∀ s:Fut w,Calls Tryz.prog 96 #[ptr b,dg ofa,.int .i64 t] s.v fun e w''=>e= .returned (.int .i64 (Dg.digit ofa t))∧∃ s':Fut w,w''=s'.v:=fun s=>Calls.fut_of (Xo b n h1 h2 ofa ha.len (ha.form h2) t (by omega) s.v (hm.grown s.below))
  have hdb:∀ s:Fut w,Calls Tryz.prog 96 #[ptr b,dg ofb,.int .i64 t] s.v fun e w''=>e= .returned (.int .i64 (Dg.digit ofb t))∧∃ s':Fut w,w''=s'.v:=fun s=>Calls.fut_of (Xo b n h1 h2 ofb hb.len (hb.form h2) t (by omega) s.v (hm.grown s.below))
  have li:=Dg.digit_lt ofa t
  have lj:=Dg.digit_lt ofb t
  have hpe:Dg.digit ofa t=Dg.digit ofb t→∀ i,i<t+1→Dg.digit ofa i=Dg.digit ofb i:=fun he i hi=>by
   rcases Nat.lt_or_ge i t with h|h
   ·exact hpre i h
   ·obtain rfl:i=t:=by omega
    exact he
  generalize hdi:Dg.digit ofa t=di at hpg hda li hpe
  generalize hdj:Dg.digit ofb t=dj at hpg hdb lj hpe
  have HQ:=hid (Qa (QA hra) (Qa (QA hrb) (Qa hda hdb)))
  have HA:=hid (Qa ha (Qa hb (Qa hw (Qa hm (Qa hpg hpe)))))
  clear ih hpg hra hrb hda hdb ha hb hw hm hdi hdj hpe hpre
  go_enter Tryz.func160,Tryz.ntmps160
  go_upto_region 1 with fail
  refine Qr (by kernel_rfl) (by kernel_rfl) ?_
  repeat (first
   |(go_big_quiet_want;(with_reducible refine QG 40 (.tmp 15) pa 0 _ 32 _ HLa.out HQ.out.1 Tryz.underlying40 rfl (by kernel_rfl) ?_ ?_ ?_);rfl;rfl;simp only[Act.put,List.setIfInBounds_toArray,List.set_cons_zero,List.set_cons_succ];go_big_quiet_on)
   |(go_big_quiet_want;(with_reducible refine QG 40 (.tmp 22) pb 0 _ 32 _ HLb.out HQ.out.2.1 Tryz.underlying40 rfl (by kernel_rfl) ?_ ?_ ?_);rfl;rfl;simp only[Act.put,List.setIfInBounds_toArray,List.set_cons_zero,List.set_cons_succ];go_big_quiet_on)
   |go_big_quiet_step (first|(with_reducible exact HQ.out.2.2.1 _)|(with_reducible exact HQ.out.2.2.2 _)))
  refine wpQuiet_nil ?_
  rintro _ ⟨s,rfl⟩
  have hpg:=HA.out.2.2.2.2.1
  have ha1:=HA.out.1.bk.grown s.below
  have hb1:=HA.out.2.1.bk.grown s.below
  have hws:=HA.out.2.2.1.below s.below
  have hms:=HA.out.2.2.2.1.grown s.below
  have q1:=Nib.add_lt 0 di (by omega) li
  rcases Nat.lt_trichotomy di dj with hij|hij|hij
  ·have hfk:=Un b n f t di dj pa pb (Nib.add (Nib.add 0 di) dj) h1 h2 ma [x] _ s.v (hpg.digs_lt li lj hij) (by omega) hpg.many (hpg.ci (by omega)) (hpg.cj (by omega)) ha1 hb1 hpg.bm.symm hws hms (hS _ s.below.size)
   have HF:=hid (Qa hfk s.below)
   have i1:(di:Int)< (dj:Int):=by omega
   clear hpg ha1 hb1 hws hms hfk
   go_wp2_with (first
    |(go_at_call 167;((with_reducible refine (ZJ (Nib.add 0 di) dj q1 lj _).mono ?_);rintro e w1 ⟨rfl,rfl⟩))
    |(go_at_call 167;refine (Kw di li _).mono ?_;rintro e w1 ⟨rfl,rfl⟩)
    |(go_at_call 166;refine HF.out.1.mono ?_;rintro e w3 ⟨b',rfl,hb',hh⟩;have HZ:=hid (Qa hb' hh);clear hb' hh))
   go_ret
   exact⟨_,b',rfl,HF.out.2.trans (HZ.out.1.mono HF.out.2.size),HZ.out.2⟩
  ·subst hij
   have hrec:=IH.out (t+1) pa pb A A2 c c2 L L2 s.v (by omega) (fun k hk=>hS k (Nat.le_trans s.below.size hk)) (HA.out.2.2.2.2.2 rfl) (HA.out.1.grown s.below) (HA.out.2.1.grown s.below) hws hms
   rw[show ((t+1:Nat):Int)=(t:Int)+1 from rfl] at hrec
   have HR:=hid (Qa hrec s.below)
   have it:(t:Int)<64:=by omega
   clear hrec ha1 hb1
   go_wp2_with (first
    |(go_at_call 167;((with_reducible refine (ZJ (Nib.add 0 di) di q1 lj _).mono ?_);rintro e w1 ⟨rfl,rfl⟩))
    |(go_at_call 167;refine (Kw di li _).mono ?_;rintro e w1 ⟨rfl,rfl⟩)
    |(go_at_call 160;refine HR.out.1.mono ?_;rintro e w3 ⟨T9,p9,rfl,hb',hh⟩
      have hfk:=Qdr b n f t di (Nib.add (Nib.add 0 di) di) T9 p9 h1 h2 _ _ w3 (hpg.digs_eq li rfl) hpg.many (hpg.same rfl) hh hpg.bm.symm (hws.below hb') (hms.grown hb') (hS _ (Nat.le_trans s.below.size hb'.size))
      have HZ:=hid (Qa hb' hfk);clear hb' hh hfk)
    |(go_at_call 166;refine HZ.out.2.mono ?_;rintro e w4 ⟨b',rfl,hb',hh⟩;have HY:=hid (Qa hb' hh);clear hb' hh))
   go_ret
   exact⟨_,b',rfl,HR.out.2.trans ((HZ.out.1.trans (HY.out.1.mono HZ.out.1.size)).mono HR.out.2.size),HY.out.2⟩
  ·have hfk:=Un b n f t dj di pb pa (Nib.add (Nib.add 0 di) dj) h1 h2 [x] ma _ s.v (hpg.digs_gt li lj hij) (by omega) hpg.many (hpg.cj (by omega)) (hpg.ci (by omega)) hb1 ha1 hpg.bm.symm hws hms (hS _ s.below.size)
   have HF:=hid (Qa hfk s.below)
   have i1:¬(di:Int)< (dj:Int):=by omega
   have i2:(dj:Int)< (di:Int):=by omega
   clear hpg ha1 hb1 hws hms hfk
   go_wp2_with (first
    |(go_at_call 167;((with_reducible refine (ZJ (Nib.add 0 di) dj q1 lj _).mono ?_);rintro e w1 ⟨rfl,rfl⟩))
    |(go_at_call 167;refine (Kw di li _).mono ?_;rintro e w1 ⟨rfl,rfl⟩)
    |(go_at_call 166;refine HF.out.1.mono ?_;rintro e w3 ⟨b',rfl,hb',hh⟩;have HZ:=hid (Qa hb' hh);clear hb' hh))
   go_ret
   exact⟨_,b',rfl,HF.out.2.trans (HZ.out.1.mono HF.out.2.size),HZ.out.2⟩
section
variable {P:Program}
theorem X6 {t e:TypeId}{n:Nat}(ht:P.underlying t=some (.array n e))(he:P.underlying e=some (.int .u8))(hs:(P.info? e).map (·.size)=some 1)(xs ys:List UInt8)(hx:xs.length=n)(hy:ys.length=n)(w:World):
 (binOp .neq t (.agg (xs.map b8).toArray) (.agg (ys.map b8).toArray)).run P w= .ok (.bool (!decide (xs=ys))) w:=by
 rw[run_neq_struct]
 have hl:=Vo he 9998 w xs ys n hx hy n 0 (by omega) rfl
 have e1:(Op.equalIn (9998+1+1) t (.agg (xs.map b8).toArray) (.agg (ys.map b8).toArray)).run P w= .ok (decide (xs=ys)) w:=by
  rw[Op.equalIn]
  simp only[Sem.run_bind,run_underlying ht,Result.andThen_ok,QN hs,Std.Legacy.Range.forIn_eq_forIn_range',Std.Legacy.Range.size]
  simp only[Nat.sub_zero,Nat.add_one_sub_one,Nat.div_one]
  rw[hl]
  by_cases h:xs=ys
  ·simp[h]
  ·simp[h]
 rw[show (10000:Nat)=9998+1+1 from rfl,e1]
 rfl
end
theorem XT {α:Type}(s:Nat):∀ (L:List (List α)) (i:Nat),(∀ x∈L,x.length=s)→L.flatten.take (i*s)=(L.take i).flatten
 |[],i,_=>by simp
 |x :: L,0,_=>by simp
 |x :: L,i+1,h=>by
  have hx:=h x (by simp)
  rw[List.flatten_cons,List.take_succ_cons,List.flatten_cons,List.take_append,List.take_of_length_le (by rw[hx,Nat.add_mul];omega),hx,show (i+1)*s-s=i*s by rw[Nat.add_mul];omega,XT s L i (fun y hy=>h y (by simp[hy]))]
theorem XU {α:Type}(s:Nat):∀ (L:List (List α)) (i:Nat),(∀ x∈L,x.length=s)→L.flatten.drop (i*s)=(L.drop i).flatten
 |[],i,_=>by simp
 |x :: L,0,_=>by simp
 |x :: L,i+1,h=>by
  have hx:=h x (by simp)
  rw[List.flatten_cons,List.drop_succ_cons,List.drop_append,List.drop_eq_nil_of_le (by rw[hx,Nat.add_mul];omega),List.nil_append,hx,show (i+1)*s-s=i*s by rw[Nat.add_mul];omega,XU s L i (fun y hy=>h y (by simp[hy]))]
theorem Ql.append [Inhabited LoT]{w:World}{L1 L2:List (List Value)}{m1 m2:List Pr}(h1:Ql w L1 m1)(h2:Ql w L2 m2):Ql w (L1++L2) (m1++m2):=by
 refine⟨by rw[List.length_append,List.length_append,h1.len,h2.len],fun i x p hx hp=>?_⟩
 have hl:=h1.len
 by_cases hi:i<L1.length
 ·rw[List.getElem?_append_left hi] at hx
  rw[List.getElem?_append_left (by omega)] at hp
  exact h1.at_ i x p hx hp
 ·rw[List.getElem?_append_right (by omega)] at hx
  rw[List.getElem?_append_right (by omega),←hl] at hp
  exact h2.at_ _ x p hx hp
theorem Ql.take [Inhabited LoT]{w:World}{L:List (List Value)}{m:List Pr}(h:Ql w L m)(k:Nat):Ql w (L.take k) (m.take k):=by
 refine⟨by rw[List.length_take,List.length_take,h.len],fun i x p hx hp=>?_⟩
 rw[List.getElem?_take] at hx hp
 split at hx
 ·rename_i hk
  rw[if_pos hk] at hp
  exact h.at_ i x p hx hp
 ·cases hx
theorem Ql.drop [Inhabited LoT]{w:World}{L:List (List Value)}{m:List Pr}(h:Ql w L m)(k:Nat):Ql w (L.drop k) (m.drop k):=by
 refine⟨by rw[List.length_drop,List.length_drop,h.len],fun i x p hx hp=>?_⟩
 rw[List.getElem?_drop] at hx hp
 exact h.at_ _ x p hx hp
theorem Ql.one [Inhabited LoT]{w:World}{x:List Value}{p:Pr}(h:QO w x p):Ql w [x] [p]:=by
 refine⟨rfl,fun i y q hy hq=>?_⟩
 cases i with
 |zero=>simp at hy hq;subst hy hq;exact h
 |succ i=>simp at hy
theorem QO.len [Inhabited LoT]{w:World}{x:List Value}{p:Pr}(h:QO w x p):x.length=2:=by obtain⟨A1,c1,A2,c2,e,_⟩:=h;rw[e];rfl
theorem QO.oc [Inhabited LoT]{w:World}{x:List Value}{p:Pr}(h:QO w x p):∀ v∈x,v.oneCell'=true:=by
 obtain⟨A1,c1,A2,c2,e,_⟩:=h
 rw[e]
 intro v hv
 rcases List.mem_cons.1 hv with rfl|hv
 ·rfl
 ·rw[List.mem_singleton] at hv;subst hv;rfl
theorem Ql.oc [Inhabited LoT]{w:World}{L:List (List Value)}{m:List Pr}(h:Ql w L m):∀ v∈L.flatten,v.oneCell'=true:=by
 intro v hv
 obtain⟨x,hx,hv⟩:=List.mem_flatten.1 hv
 obtain⟨i,hi,rfl⟩:=List.getElem_of_mem hx
 have hm:i<m.length:=by have:=h.len;omega
 exact (h.at_ i L[i] m[i] (by simp[hi]) (by simp[hm])).oc v hv
theorem Ql.flat [Inhabited LoT]{w:World}{L:List (List Value)}{m:List Pr}(h:Ql w L m):L.flatten.length=m.length*2:=by rw[Xc 2 _ h.two,h.len]
def pos (ps:List Pr)(key:List UInt8):Nat:=(ps.filter fun p=>decide (Lx.cmp p.key key<0)).length
theorem Qds {ps:List Pr}{key:List UInt8}{i:Nat}(hi:i≤ps.length)(h1:∀ (j:Nat) (p:Pr),j<i→ps[j]?=some p→Lx.cmp p.key key<0)(h2:∀ (j:Nat) (p:Pr),i≤j→ps[j]?=some p→¬Lx.cmp p.key key<0):pos ps key=i:=by
 unfold pos
 conv=>lhs;rw[← List.take_append_drop i ps,List.filter_append]
 rw[List.filter_eq_self.2 (fun p hp=>by
    obtain⟨j,hj,rfl⟩:=List.getElem_of_mem hp
    rw[List.length_take] at hj
    simp only[List.getElem_take,decide_eq_true_eq]
    exact h1 j _ (by omega) (List.getElem?_eq_getElem (by omega))),
  (List.filter_eq_nil_iff (l:=ps.drop i)).2 (fun p hp=>by
    obtain⟨j,hj,rfl⟩:=List.getElem_of_mem hp
    rw[List.length_drop] at hj
    simp only[List.getElem_drop,decide_eq_true_eq]
    exact h2 (i+j) _ (by omega) (List.getElem?_eq_getElem (by omega)))]
 rw[List.append_nil,List.length_take]
 omega
theorem Uo {n:Nat}{m:List Pr}{of:List UInt8}(hs:Hm.Srt n m)(hk:∀ p∈m,Dg.key n p.key=of){i j:Nat}{p q:Pr}(hij:i<j)(hp:m[i]?=some p)(hq:m[j]?=some q):Lx.cmp p.key q.key<0:=by
 obtain⟨hi,rfl⟩:=List.getElem?_eq_some_iff.1 hp
 obtain⟨hj,rfl⟩:=List.getElem?_eq_some_iff.1 hq
 have:=(List.pairwise_iff_getElem.1 hs) i j hi hj hij
 rwa [Hm.cmp_of_eq ((hk _ (List.getElem_mem hi)).trans (hk _ (List.getElem_mem hj)).symm)] at this
theorem K1 [Inhabited LoT](n:Nat)(A Ak:Option Addr)(c ck:Nat)(L:List (List Value))(m:List Pr)(of key:List UInt8)(w:World)(hA:Rd w A L.flatten)(hP:Ql w L m)(hk:Rd w Ak (key.map b8))(hb:Bnd m)(hs:Hm.Srt n m)(hof:∀ p∈m,Dg.key n p.key=of):
 Calls Tryz.prog 94 #[.slice A m.length c,.slice Ak key.length ck] w fun e w'=>e= .returned (.tuple #[.int .i64 (pos m key),.bool (fnd m (pos m key) key)])∧Below w.heap.size w w':=by
 refine (Qdj A Ak c ck L m key w hA hP hk (by have:=hb.1;omega) (fun p hp=>by have:=(hb.2 p hp).1;omega) (fun i j p q hij hp hq h=>Lx.cmp_trans (Uo hs hof hij hp hq) h)).mono ?_
 rintro e w' ⟨i,he,hb',hi,h1,h2⟩
 have:=Qds hi h1 h2
 rw[this]
 exact⟨he,hb'⟩
structure Qh7 (n:Nat) (m:List Pr) (key:List UInt8):Prop where
 le:pos m key≤m.length
 lo:∀ p∈m.take (pos m key),Lx.cmp p.key key<0
 hi:∀ p∈m.drop (pos m key),¬Lx.cmp p.key key<0
 up:∀ p∈m.drop (pos m key+1),0<Lx.cmp p.key key
theorem WE [Inhabited LoT]{n:Nat}{m:List Pr}{of key:List UInt8}(hs:Hm.Srt n m)(hof:∀ p∈m,Dg.key n p.key=of):Qh7 n m key:=by
 have h:∀ m:List Pr,Hm.Srt n m→(∀ p∈m,Dg.key n p.key=of)→(∀ p∈m.take (pos m key),Lx.cmp p.key key<0)∧(∀ p∈m.drop (pos m key),¬Lx.cmp p.key key<0):=by
  intro m
  induction m with
  |nil=>intro _ _;simp
  |cons a r ih=>
   intro hs hof
   have hs':=List.pairwise_cons.1 hs
   obtain⟨g1,g2⟩:=ih hs'.2 (fun p hp=>hof p (by simp[hp]))
   by_cases ha:Lx.cmp a.key key<0
   ·have e:pos (a :: r) key=pos r key+1:=by unfold pos;rw[List.filter_cons,if_pos (by simpa using ha),List.length_cons]
    rw[e,List.take_succ_cons,List.drop_succ_cons]
    exact⟨fun p hp=>by rcases List.mem_cons.1 hp with rfl|hp;exact ha;exact g1 p hp,g2⟩
   ·have hr:∀ p∈r,¬Lx.cmp p.key key<0:=by
     intro p hp h
     have:=hs'.1 p hp
     rw[Hm.cmp_of_eq ((hof a (by simp)).trans (hof p (by simp[hp])).symm)] at this
     exact ha (Lx.cmp_trans this h)
    have e:pos (a :: r) key=0:=by
     unfold pos
     rw[List.filter_eq_nil_iff.2 (fun p hp=>by
      rcases List.mem_cons.1 hp with rfl|hp
      ·simpa using ha
      ·have:=hr p hp;simpa using this)]
     rfl
    rw[e]
    refine⟨by simp,?_⟩
    intro p hp
    rw[List.drop_zero] at hp
    rcases List.mem_cons.1 hp with rfl|hp
    ·exact ha
    ·exact hr p hp
 obtain⟨g1,g2⟩:=h m hs hof
 refine⟨List.length_filter_le _ _,g1,g2,?_⟩
 intro p hp
 obtain⟨j,hj,rfl⟩:=List.getElem_of_mem hp
 rw[List.length_drop] at hj
 rw[List.getElem_drop]
 have hlt:pos m key<m.length:=by omega
 have h0:=g2 m[pos m key] (by have h9:m[pos m key]∈m[pos m key] :: m.drop (pos m key+1):=List.mem_cons_self;rwa [← List.drop_eq_getElem_cons hlt] at h9)
 have h1:=Uo hs hof (show pos m key<pos m key+1+j by omega) (List.getElem?_eq_getElem hlt) (List.getElem?_eq_getElem (by omega))
 rcases Int.lt_trichotomy (Lx.cmp m[pos m key+1+j].key key) 0 with h2|h2|h2
 ·exact absurd (Lx.cmp_trans h1 h2) h0
 ·rw[Lx.cmp_eq h2] at h1;exact absurd h1 h0
 ·exact h2
theorem ZU {m:List Pr}{i:Nat}{key:List UInt8}:fnd m i key=true↔∃ p,m[i]?=some p∧p.key=key:=by
 unfold fnd
 cases m[i]? with
 |none=>simp
 |some p=>
  simp only[beq_iff_eq,Option.some.injEq,exists_eq_left']
  exact⟨Lx.cmp_eq,fun h=>by rw[h];exact Lx.cmp_self _⟩
theorem Qb2 [Inhabited LoT]{n:Nat}{m:List Pr}{of:List UInt8}{x:Pr}(hs:Hm.Srt n m)(hof:∀ p∈m,Dg.key n p.key=of)(hx:Dg.key n x.key=of)(hf:fnd m (pos m x.key) x.key=true):Hm.ins n x m=m.take (pos m x.key)++([x]++m.drop (pos m x.key+1)):=by
 have sp:=WE (key:=x.key) hs hof
 obtain⟨p,hp,hk⟩:=ZU.1 hf
 obtain⟨hl,hpe⟩:=List.getElem?_eq_some_iff.1 hp
 have e:m=m.take (pos m x.key)++([p]++m.drop (pos m x.key+1)):=by
  conv=>lhs;rw[← List.take_append_drop (pos m x.key) m,List.drop_eq_getElem_cons hl,hpe]
  rfl
 have hc:∀ q∈m,Hm.cmp n q x=Lx.cmp q.key x.key:=fun q hq=>Hm.cmp_of_eq ((hof q hq).trans hx.symm)
 conv=>lhs;rw[e]
 rw[Hm.ins_of_sides]
 ·rfl
 ·intro q hq;rw[hc q (List.mem_of_mem_take hq)];exact sp.lo q hq
 ·intro q hq;rw[List.mem_singleton] at hq;subst hq;rw[Hm.cmp_same hk]
 ·intro q hq;rw[hc q (List.mem_of_mem_drop hq)];exact sp.up q hq
theorem Qf1 [Inhabited LoT]{n:Nat}{m:List Pr}{of:List UInt8}{x:Pr}(hs:Hm.Srt n m)(hof:∀ p∈m,Dg.key n p.key=of)(hx:Dg.key n x.key=of)(hf:fnd m (pos m x.key) x.key=false):Hm.ins n x m=m.take (pos m x.key)++([x]++m.drop (pos m x.key)):=by
 have sp:=WE (key:=x.key) hs hof
 have hc:∀ q∈m,Hm.cmp n q x=Lx.cmp q.key x.key:=fun q hq=>Hm.cmp_of_eq ((hof q hq).trans hx.symm)
 have e:m=m.take (pos m x.key)++([]++m.drop (pos m x.key)):=by rw[List.nil_append,List.take_append_drop]
 conv=>lhs;rw[e]
 rw[Hm.ins_of_sides]
 ·rfl
 ·intro q hq;rw[hc q (List.mem_of_mem_take hq)];exact sp.lo q hq
 ·intro q hq;cases hq
 ·intro q hq
  rw[hc q (List.mem_of_mem_drop hq)]
  obtain⟨j,hj,rfl⟩:=List.getElem_of_mem hq
  rw[List.length_drop] at hj
  cases j with
  |zero=>
   have h0:=sp.hi _ hq
   rcases Int.lt_trichotomy (Lx.cmp (m.drop (pos m x.key))[0].key x.key) 0 with h2|h2|h2
   ·exact absurd h2 h0
   ·exfalso
    have:fnd m (pos m x.key) x.key=true:=ZU.2 ⟨_,List.getElem?_eq_getElem (by omega),by have:=Lx.cmp_eq h2;rwa [List.getElem_drop] at this⟩
    rw[hf] at this;cases this
   ·exact h2
  |succ j=>
   refine sp.up _ ?_
   rw[List.getElem_drop]
   have:m[pos m x.key+(j+1)]'(by omega)=(m.drop (pos m x.key+1))[j]'(by rw[List.length_drop];omega):=by
    rw[List.getElem_drop];congr 1;omega
   rw[this]
   exact List.getElem_mem _
end Go.Proofs.YtpnakfeafekneaaGreatDoor
