/- Part 9 of this proof. -/
import Derived.Laws.StructEq
import Derived.Test.YtpnakfeafekneaaGreatDoorG06
set_option linter.unusedSimpArgs false
set_option linter.unusedVariables false
set_option maxHeartbeats 8000000
set_option maxRecDepth 100000
namespace Go.Proofs.YtpnakfeafekneaaGreatDoor
open Go.RowKit
section
variable {P:Program}
theorem JN {e:TypeId}{dd:TypeDesc}(he:P.underlying e=some dd)(hd:dd.isRow=false)(cs:Array Value)(i:Nat)(v:Value)(hv:cs[i]?=some v)(w:World):(part e cs i).run P w= .ok v w:=by
 have ha:(isAgg e).run P w= .ok false w:=by
  unfold isAgg
  rw[Sem.run_bind,run_underlying he w]
  cases dd<;>simp_all
 simp[part,ha,hv]
theorem Vo {e:TypeId}(he:P.underlying e=some (.int .u8))(d:Nat)(w:World)(xs ys:List UInt8)(n:Nat)(hx:xs.length=n)(hy:ys.length=n):
 ∀ (m k:Nat),k+m=n→xs.take k=ys.take k→
   (forIn (List.range' k m) ((none,()):Option Bool×Unit) (fun i r=>(do
     if !(← Op.equalIn (d+1) e (← part e (xs.map b8).toArray (i*1)) (← part e (ys.map b8).toArray (i*1))) then pure (ForInStep.done (some false,())) else pure (ForInStep.yield (none,()))):Nat→Option Bool×Unit→Sem (ForInStep (Option Bool×Unit)))).run P w=
     .ok (if xs=ys then (none,()) else (some false,())) w:=by
 intro m
 induction m with
 |zero=>
  intro k hk ht
  have e1:xs=ys:=by rwa [List.take_of_length_le (by omega),List.take_of_length_le (by omega)] at ht
  simp[e1]
 |succ m ih=>
  intro k hk ht
  have h1:(xs.map b8).toArray[k*1]?=some (b8 (xs[k]'(by omega))):=by simp[show k<xs.length from by omega]
  have h2:(ys.map b8).toArray[k*1]?=some (b8 (ys[k]'(by omega))):=by simp[show k<ys.length from by omega]
  have p1:=JN he rfl _ _ _ h1 w
  have p2:=JN he rfl _ _ _ h2 w
  have q:=run_equalIn_int (P:=P) w d e .u8 .u8 (n8 (xs[k]'(by omega))) (n8 (ys[k]'(by omega))) he
  rw[List.range'_succ,List.forIn_cons]
  simp only[Sem.run_bind,p1,p2,q,Result.andThen_ok]
  by_cases hb:xs[k]'(by omega)=ys[k]'(by omega)
  ·have:=ih (k+1) (by omega) (by rw[List.take_succ_eq_append_getElem (by omega),List.take_succ_eq_append_getElem (by omega),ht,hb])
   simp only[hb,beq_self_eq_true,Bool.not_true,Bool.false_eq_true,if_false,Sem.run_pure,Result.andThen_ok]
   exact this
  ·have hne:xs≠ys:=fun e=>hb (by subst e;rfl)
   have hn:(n8 (xs[k]'(by omega)) == n8 (ys[k]'(by omega)))=false:=by rw[Qc2];exact beq_eq_false_iff_ne.2 hb
   simp[hn,hne]
theorem JA {t e:TypeId}{n:Nat}(ht:P.underlying t=some (.array n e))(he:P.underlying e=some (.int .u8))(hs:(P.info? e).map (·.size)=some 1)(xs ys:List UInt8)(hx:xs.length=n)(hy:ys.length=n)(w:World):
 (binOp .eql t (.agg (xs.map b8).toArray) (.agg (ys.map b8).toArray)).run P w= .ok (.bool (decide (xs=ys))) w:=by
 rw[run_eql_struct]
 have hl:=Vo he 9998 w xs ys n hx hy n 0 (by omega) rfl
 have e1:(Op.equalIn (9998+1+1) t (.agg (xs.map b8).toArray) (.agg (ys.map b8).toArray)).run P w= .ok (decide (xs=ys)) w:=by
  rw[Op.equalIn]
  simp only[Sem.run_bind,run_underlying ht,Result.andThen_ok,QN hs,Std.Legacy.Range.forIn_eq_forIn_range',Std.Legacy.Range.size]
  simp only[Nat.sub_zero,Nat.add_one_sub_one,Nat.div_one]
  rw[hl]
  by_cases h:xs=ys
  ·simp[h]
  ·simp[h]
 rw[show (10000:Nat)=9998+1+1 from rfl,e1]
 rfl
end
end Go.Proofs.YtpnakfeafekneaaGreatDoor
