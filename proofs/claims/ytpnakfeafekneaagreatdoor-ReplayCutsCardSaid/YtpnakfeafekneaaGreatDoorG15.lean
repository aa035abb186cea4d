/- Part 15 of this proof. -/
import Derived.Deep.DeepCutAuto
import Derived.Test.YtpnakfeafekneaaGreatDoorG02
import Derived.Test.YtpnakfeafekneaaGreatDoorG06
import Derived.Test.YtpnakfeafekneaaGreatDoorG14
set_option linter.unusedSimpArgs false
set_option linter.unusedVariables false
set_option maxHeartbeats 8000000
set_option maxRecDepth 100000
namespace Go.Proofs.YtpnakfeafekneaaGreatDoor
open Go.RowKit
def En.bfirst (F n:Nat):Nat:=if n=0∨¬F+n<18446744073709551616 then En.least (if 64<n then 2 else 0) 3 else (if 64<n then 2 else 0)
def En.bchk (F:Nat)(es:List Ent):Nat:=es.foldl (fun e a=>En.least e (En.check a)) (En.bfirst F es.length)
theorem En.chk_lt (k:UInt8)(a b:Nat):En.chk k a b<4:=by unfold En.chk;split<;>(try split)<;>omega
theorem En.least_lt {a b:Nat}(ha:a<4)(hb:b<4):En.least a b<4:=by unfold En.least;split<;>omega
theorem En.bfirst_lt (F n:Nat):En.bfirst F n<4:=by
 unfold En.bfirst
 have:(if 64<n then 2 else 0)<4:=by split<;>omega
 split
 ·exact En.least_lt this (by omega)
 ·exact this
theorem En.least_zero {a b:Nat}(h:En.least a b=0):a=0∧b=0:=by
 unfold En.least at h
 split at h
 ·rename_i h1;rcases h1 with h1|⟨h1,_⟩<;>omega
 ·rename_i h1;exact absurd (.inl h) h1
theorem En.fold_zero:∀ (es:List Ent) (e:Nat),es.foldl (fun e a=>En.least e (En.check a)) e=0→e=0∧∀ a∈es,En.check a=0
 |[],e,h=>⟨h,by simp⟩
 |a :: es,e,h=>by
  obtain⟨h1,h2⟩:=En.fold_zero es _ h
  obtain⟨h3,h4⟩:=En.least_zero h1
  exact⟨h3,by intro b hb;rcases List.mem_cons.1 hb with rfl|hb;exact h4;exact h2 b hb⟩
theorem En.bchk_zero {F:Nat}{es:List Ent}(h:En.bchk F es=0):0<es.length∧es.length≤64∧F+es.length<18446744073709551616∧∀ a∈es,En.check a=0:=by
 obtain⟨h1,h2⟩:=En.fold_zero es _ h
 unfold En.bfirst at h1
 split at h1
 ·obtain⟨_,h3⟩:=En.least_zero h1;cases h3
 ·rename_i h3
  split at h1
  ·cases h1
  ·exact⟨by omega,by omega,by omega,h2⟩
theorem En.flat_len:∀ (es:List Ent),(∀ a∈es,En.check a=0)→(es.flatMap En.bytes).length≤400*es.length
 |[],_=>by simp
 |a :: es,h=>by
  rw[List.flatMap_cons,List.length_append,List.length_cons]
  have h1:=En.bytes_len a (h a (by simp))
  have h2:=En.flat_len es (fun b hb=>h b (by simp[hb]))
  omega
theorem Wn (F:Nat)(hF:F<18446744073709551616)(A:Option Addr)(c:Nat)(L:List (List Value))(es:List Ent)(w:World)(hA:Rd w A L.flatten)(hE:QK w L es)(hn:es.length<1099511627776):
 Calls Tryz.prog 68 #[.agg #[.int .u64 F,.slice A es.length c]] w fun e w'=>∃ v,e= .returned (.tuple #[v,.int .i64 (En.bchk F es)])∧Below w.heap.size w w':=by
 have hbk:Blk (w.alloc (.cells #[.int .u64 F,.slice A es.length c] 47)) w.heap.size 47 [.int .u64 F,.slice A es.length c]:=Blk.new w _ _
 have HE:=hid (Qa hA hE)
 clear hA hE
 go_enter Tryz.func68,Tryz.ntmps68
 go_upto_region 1 with fail
 refine Qe (fun w'=>Blk w' w.heap.size 47 [.int .u64 F,.slice A es.length c]∧Below w.heap.size w w') ⟨hbk,Qb _ _⟩ ?_
 clear hbk
 rintro w1 ⟨hb,hbl⟩
 have c0:w1.cell? ⟨w.heap.size,0,none⟩=some (.int .u64 F):=by rw[hb.cell];rfl
 have c1:w1.cell? ⟨w.heap.size,1,none⟩=some (.slice A es.length c):=by rw[hb.cell];rfl
 have HB:=hid (Qa hb hbl)
 clear hb hbl
 go_upto_if 13 with (fail)
 go_cut [4] (fun s4 wx=>∃ e0:Nat,s4= .int .i64 e0∧wx=w1∧e0=if 64<es.length then 2 else 0)
 case first=>
  by_cases h:64<es.length
  ·have i1:(64:Int)< (es.length:Int):=by omega
   have HQ:=hid h
   clear h
   go_wp2_with fail
   go_meet
   exact⟨2,rfl,rfl,by rw[if_pos HQ.out]⟩
  ·have i1:¬(64:Int)< (es.length:Int):=by omega
   have HQ:=hid h
   clear h
   go_wp2_with fail
   go_meet
   exact⟨0,rfl,rfl,by rw[if_neg HQ.out]⟩
 case rest=>
  obtain⟨e0,rfl,rfl,he0⟩:=hcut
  have h0lt:e0<4:=by rw[he0];split<;>omega
  have HE0:=hid he0
  clear he0
  go_upto_region 4 with (fail)
  go_cut [26] (fun s26 wx=>s26= .bool (decide (es.length=0∨¬F+es.length<18446744073709551616))∧wx=wc)
  case first=>
   by_cases hn0:es.length=0
   ·have HD:=hid (show decide (es.length=0∨¬F+es.length<18446744073709551616)=true from decide_eq_true (.inl hn0))
    have i1:((es.length:Int) == 0)=true:=by rw[hn0];rfl
    clear hn0
    go_wp2_with fail
    go_meet
    exact⟨by rw[HD.out],rfl⟩
   ·have i1:((es.length:Int) == 0)=false:=by rw[beq_eq_false_iff_ne];omega
    by_cases hf:F+es.length<18446744073709551616
    ·have HD:=hid (Qa (decide_eq_true hf) (show decide (es.length=0∨¬F+es.length<18446744073709551616)=false from decide_eq_false (by omega)))
     clear hn0 hf
     go_wp2_with (go_at_call 108;refine (Qdd F es.length hF (by omega) _).mono ?_;rw[HD.out.1];rintro e w2 ⟨rfl,rfl⟩)
     go_meet
     exact⟨by rw[HD.out.2],rfl⟩
    ·have HD:=hid (Qa (decide_eq_false hf) (show decide (es.length=0∨¬F+es.length<18446744073709551616)=true from decide_eq_true (.inr hf)))
     clear hn0 hf
     go_wp2_with (go_at_call 108;refine (Qdd F es.length hF (by omega) _).mono ?_;rw[HD.out.1];rintro e w2 ⟨rfl,rfl⟩)
     go_meet
     exact⟨by rw[HD.out.2],rfl⟩
  case rest=>
   obtain⟨rfl,rfl⟩:=hcut
   rename World=>wd
   go_upto_if 26 with (fail)
   go_cut [4] (fun s4 wx=>∃ e1:Nat,s4= .int .i64 e1∧wx=wd∧e1=En.bfirst F es.length)
   case first=>
    by_cases hq:es.length=0∨¬F+es.length<18446744073709551616
    ·have hd:=decide_eq_true hq
     have HD:=hid hq
     clear hq
     go_wp2_with (go_at_call 109;refine (Qao e0 3 (by omega) (by omega) _).mono ?_;rintro e w2 ⟨rfl,rfl⟩)
     go_meet
     exact⟨_,rfl,rfl,by unfold En.bfirst;rw[if_pos HD.out,HE0.out]⟩
    ·have hd:=decide_eq_false hq
     have HD:=hid hq
     clear hq
     go_wp2_with fail
     go_meet
     exact⟨_,rfl,rfl,by unfold En.bfirst;rw[if_neg HD.out,HE0.out]⟩
   case rest=>
    obtain⟨e1,rfl,rfl,he1⟩:=hcut
    rename World=>wd
    have h1lt:e1<4:=by rw[he1];exact En.bfirst_lt _ _
    have HE1:=hid he1
    clear he1 HE0 h0lt e0
    go_wp2_with fail
    go_loopg [4,32] es.length (fun g s4 i wr=>∃ j e:Nat,j+g=es.length∧i= .int .i64 j∧s4= .int .i64 e∧e<4∧e=(es.take j).foldl (fun e a=>En.least e (En.check a)) e1∧Below wd.heap.size wd wr)
    case atStart=>exact⟨0,e1,by omega,rfl,rfl,h1lt,rfl,Below.refl _ _⟩
    case round=>
     obtain⟨j,ee,hj,rfl,rfl,helt,hee,hi⟩:=hrel
     have HI:=hid (Qa hee hi)
     clear hee hi
     by_cases hlt:j<es.length
     ·obtain⟨kind,key,val,hjj⟩:∃ kind key val,es[j]?=some ⟨kind,key,val⟩:=⟨es[j].kind,es[j].key,es[j].val,by simp[hlt]⟩
      have hL:=HE.out.2.len
      have hjl:j<L.length:=by omega
      obtain⟨g,o,rfl,hr⟩:=HE.out.1 (by
       intro e
       have:=Qk 3 _ HE.out.2.three
       rw[e] at this
       simp at this;omega)
      have hp:=Qt hr HE.out.2.three j hjl
      obtain⟨A1,c1',A2,c2',hx,hr1,hr2,hc1,hc2⟩:=HE.out.2.at_ j L[j] ⟨kind,key,val⟩ (by simp[hjl]) hjj
      rw[hx] at hp
      simp only[] at hp
      have hlb:=Qo hp (by simp)
      have hp2:=Qh hp (HB.out.2.trans (HI.out.2.mono HB.out.2.size)) hlb
      have hfold:(es.take (j+1)).foldl (fun e a=>En.least e (En.check a)) e1=En.least ee (En.chk kind key.length val.length):=by
       rw[List.take_succ_eq_append_getElem hlt,List.foldl_append,←HI.out.1,(List.getElem?_eq_some_iff.1 hjj).2];rfl
      have hclt:=En.chk_lt kind key.length val.length
      have HX:=hid hfold
      clear hr hr1 hr2 hx hp hfold hc1 hc2 hL
      go_wp2_with (first
       |((with_reducible refine Qf 36 (.tmp 34) g (o+j*3) _ 3 _ rfl hp2 Tryz.underlying36 rfl (by kernel_rfl) ?_ ?_ ?_ ?_);rfl;rfl;rfl)
       |(go_at_call 39
         refine (JR kind A1 A2 key.length c1' val.length c2' _).mono ?_
         rintro e7 w7 ⟨rfl,hk⟩
         have HC:=hid hk;clear hk)
       |(go_at_call 109
         refine (Qao ee (En.chk kind key.length val.length) (by omega) (by omega) _).mono ?_
         rintro e7 w8 ⟨rfl,rfl⟩))
      go_roundg (gk-1)
      case measure=>omega
      case rel=>exact⟨j+1,_,by omega,by go_num,rfl,En.least_lt helt hclt,HX.out.symm,(HI.out.2.alloc HI.out.2.size _).trans (HC.out.mono (by simp;have:=HI.out.2.size;omega))⟩
     ·obtain rfl:j=es.length:=by omega
      have hb:=HI.out.1
      rw[List.take_length,HE1.out] at hb
      have hbf:ee=En.bchk F es:=hb
      subst hbf
      clear hb
      by_cases hz:En.bchk F es=0
      ·have hfacts:=En.bchk_zero hz
       have hn0:(0:Int)≤(es.length:Int)∧(es.length:Int)<18446744073709551616:=by omega
       have hZ:((En.bchk F es:Nat):Int)=0:=by omega
       have HZ0:=hid (Qa hz (Qa hfacts hZ))
       rw[hz]
       clear hz hfacts hZ helt
       have hbw:Blk wr w.heap.size 47 [.int .u64 F,.slice A es.length c]:=HB.out.1.grown HI.out.2
       have hb0:Below w.heap.size w wr:=gro HB.out.2 HI.out.2
       have hul1:=Wi.uvar_length 9 F (by omega)
       have hul2:=Wi.uvar_length 9 es.length (by omega)
       have HW:=hid (Qa hbw hb0)
       clear hbw hb0
       rename World=>wq
       have c20:(wq.alloc (.cells #[.slice none 0 0] 184)).cell? ⟨w.heap.size,0,none⟩=some (.int .u64 F):=by
        rw[(HW.out.1.alloc _).cell];rfl
       have hlenF:(Wi.uvar F).length<17592186044416:=by omega
       go_wp2_with (first
        |(go_at_call 110
          refine (Ki es.length HV.out (by omega) (by simp only[List.nil_append];exact hlenF)).mono ?_
          rintro e w4 ⟨rfl,h⟩
          have hb4:=(HW.out.1.grown h.bl)
          have c41:w4.cell? ⟨w.heap.size,1,none⟩=some (.slice A es.length c):=by rw[hb4.cell];rfl
          have HU:=hid (Qa h hb4)
          clear h hb4)
        |(go_at_call 110
          refine (Ki F (Wr.new wq) (by omega) (by simp)).mono ?_
          rintro e w3 ⟨rfl,h⟩
          have hb3:=(HW.out.1.grown h.bl)
          have c31:w3.cell? ⟨w.heap.size,1,none⟩=some (.slice A es.length c):=by rw[hb3.cell];rfl
          have HV:=hid h
          clear h hb3))
       have hwr:=HU.out.1.weaken HW.out.2
       rw[show []++Wi.uvar F++Wi.uvar es.length=Wi.uvar F++Wi.uvar es.length++(es.take 0).flatMap En.bytes by simp] at hwr
       have HWR:=hid hwr
       clear hwr
       go_loopg [55] es.length (fun g i wr=>∃ j:Nat,j+g=es.length∧i= .int .i64 j∧Wr w.heap.size wq.heap.size w wr (Wi.uvar F++Wi.uvar es.length++(es.take j).flatMap En.bytes))
       case atStart=>exact⟨0,by omega,rfl,HWR.out⟩
       case round=>
        clear HWR
        obtain⟨j,hj,rfl,hi⟩:=hrel
        have HI:=hid hi
        clear hi
        by_cases hlt:j<es.length
        ·obtain⟨e,hjj⟩:∃ e,es[j]?=some e:=⟨es[j],by simp[hlt]⟩
         have hL:=HE.out.2.len
         have hjl:j<L.length:=by omega
         obtain⟨g,o,rfl,hr⟩:=HE.out.1 (by
          intro e
          have:=Qk 3 _ HE.out.2.three
          rw[e] at this
          simp at this;omega)
         have hp:=Qt hr HE.out.2.three j hjl
         obtain⟨A1,c1',A2,c2',hx,hr1,hr2,hc1,hc2⟩:=HE.out.2.at_ j L[j] e (by simp[hjl]) hjj
         rw[hx] at hp
         have hlb:=Qo hp (by simp)
         have hp2:=Qh hp HI.out.bl hlb
         have hok:=HZ0.out.2.1.2.2.2 e (by rw[← (List.getElem?_eq_some_iff.1 hjj).2];exact List.getElem_mem _)
         have hlens:=En.lens e hok
         have hfl:((es.take j).flatMap En.bytes).length≤400*64:=by
          have h:=En.flat_len (es.take j) (fun a ha=>HZ0.out.2.1.2.2.2 a (List.mem_of_mem_take ha))
          have h2:=HZ0.out.2.1.2.1
          rw[List.length_take] at h
          omega
         have hpre:(Wi.uvar F++Wi.uvar es.length++(es.take j).flatMap En.bytes).length<1099511627776:=by
          simp only[List.length_append];omega
         have htk:(es.take (j+1)).flatMap En.bytes=(es.take j).flatMap En.bytes++En.bytes e:=by
          rw[List.take_succ_eq_append_getElem hlt,List.flatMap_append,List.flatMap_cons,List.flatMap_nil,List.append_nil,(List.getElem?_eq_some_iff.1 hjj).2]
         have hcall:=Vt wq.heap.size w e A1 A2 c1' c2' _ _ (HI.out.grown (Qb wr (.cells #[b8 e.kind,.slice A1 e.key.length c1',.slice A2 e.val.length c2'] 36))) hr1 hr2 hpre (by omega) (by omega)
         have HX:=hid (Qa hcall htk)
         clear hr hr1 hr2 hx hp hc1 hc2 hL hok hlens hfl hpre htk hcall
         go_wp2_with (first
          |((with_reducible refine Qf 36 (.tmp 57) g (o+j*3) _ 3 _ rfl hp2 Tryz.underlying36 rfl (by kernel_rfl) ?_ ?_ ?_ ?_);rfl;rfl;rfl)
          |(go_at_call 111
            refine HX.out.1.mono ?_
            rintro e7 w7 ⟨rfl,h,-⟩
            have HC:=hid h;clear h))
         go_roundg (gk-1)
         case measure=>omega
         case rel=>exact⟨j+1,by omega,by go_num,by rw[HX.out.2,←List.append_assoc];exact HC.out⟩
        ·obtain rfl:j=es.length:=by omega
         have hfl:(Wi.uvar F++Wi.uvar es.length++(es.take es.length).flatMap En.bytes).length<17592186044416:=by
          have h:=En.flat_len es HZ0.out.2.1.2.2.2
          have h2:=HZ0.out.2.1.2.1
          rw[List.take_length]
          simp only[List.length_append];omega
         have HL:=hid hfl
         clear hfl
         go_wp2_with (
          (go_at_call 112
           refine (Zm HI.out HL.out).mono ?_
           rintro e7 w7 ⟨A',c',rfl,h1,h2,h3,h4⟩
           have HZ:=hid h1
           clear h1 h2 h3 h4))
         go_ret2
         refine⟨.slice A' ((Wi.uvar F).length+((Wi.uvar es.length).length+(List.map (fun a=>(En.bytes a).length) es).sum)) c',?_,HZ.out⟩
         rw[HZ0.out.1];rfl
      ·have i0:((En.bchk F es:Nat):Int)≠0:=by omega
       have i1:(((En.bchk F es:Nat):Int) != 0)=true:=by rw[bne_iff_ne];exact i0
       clear i0
       go_wp2_with fail
       go_ret2
       exact⟨_,rfl,gro HB.out.2 HI.out.2⟩
namespace Mt
def below (k:Nat):Nat:=2^(k-1).log2
theorem below_pos (k:Nat):0<below k:=Nat.two_pow_pos _
theorem below_lt (k:Nat)(hk:2≤k):below k<k:=by
 have:=(Nat.log2_eq_iff (n:=k-1) (k:=(k-1).log2) (by omega)).1 rfl
 unfold below;omega
theorem below_ge (k:Nat)(hk:2≤k):k≤2*below k:=by
 have:=(Nat.log2_eq_iff (n:=k-1) (k:=(k-1).log2) (by omega)).1 rfl
 unfold below
 rw[Nat.pow_succ] at this;omega
theorem below_eq (k i:Nat)(hk:2≤k)(h1:2^i<k)(h2:k≤2*2^i):below k=2^i:=by
 unfold below
 congr 1
 exact (Nat.log2_eq_iff (by omega)).2 ⟨by omega,by rw[Nat.pow_succ];omega⟩
theorem below_pow (h:Nat):below (2^(h+1))=2^h:=by
 have:0<2^h:=Nat.two_pow_pos h
 exact below_eq _ _ (by rw[Nat.pow_succ];omega) (by rw[Nat.pow_succ];omega) (by rw[Nat.pow_succ];omega)
def log (n:Nat)(ds:List (List UInt8)):List UInt8:=
 if h:2≤ds.length then
  have:below ds.length<ds.length:=below_lt _ h
  have:0<below ds.length:=below_pos _
  Dg.node n (log n (ds.take (below ds.length))) (log n (ds.drop (below ds.length)))
 else match ds with
  |d :: _=>d
  |[]=>Dg.noLog n
termination_by ds.length
decreasing_by
 ·rw[List.length_take];omega
 ·rw[List.length_drop];omega
theorem log_one (n:Nat)(d:List UInt8):log n [d]=d:=by rw[log];simp
theorem log_nil (n:Nat):log n []=Dg.noLog n:=by rw[log];simp
theorem log_two (n:Nat)(ds:List (List UInt8))(h:2≤ds.length):log n ds=Dg.node n (log n (ds.take (below ds.length))) (log n (ds.drop (below ds.length))):=by
 conv=>lhs;rw[log]
 rw[dif_pos h]
theorem log_fit (n:Nat)(hn:n≤32):∀ (k:Nat) (ds:List (List UInt8)),ds.length≤k→(∀ d∈ds,d.length=32∧Dg.form n d=true)→(log n ds).length=32∧Dg.form n (log n ds)=true:=by
 intro k ds _ hf
 rcases ds with _|⟨d,_|⟨e,r⟩⟩
 ·rw[log_nil];exact⟨Dg.sum_length _ _ hn,Dg.form_sum _ _ hn⟩
 ·rw[log_one];exact hf d (by simp)
 ·rw[log_two _ _ (by simp)];exact⟨Dg.sum_length _ _ hn,Dg.form_sum _ _ hn⟩
end Mt
inductive MT where
 |leaf (d:List UInt8)
 |node (d:List UInt8) (l r:MT)
namespace MT
def dig:MT→List UInt8
 |leaf d=>d
 |node d _ _=>d
def ht:MT→Nat
 |leaf _=>0
 |node _ l _=>l.ht+1
def size (t:MT):Nat:=2^t.ht
def leaves:MT→List (List UInt8)
 |leaf d=>[d]
 |node _ l r=>l.leaves++r.leaves
def ok (n:Nat):MT→Prop
 |leaf _=>True
 |node d l r=>l.ok n∧r.ok n∧l.ht=r.ht∧d=Dg.node n l.dig r.dig
theorem size_pos (t:MT):0<t.size:=Nat.two_pow_pos _
theorem leaves_len (n:Nat):∀ (t:MT),t.ok n→t.leaves.length=t.size
 |leaf _,_=>rfl
 |node d l r,h=>by
  obtain⟨h1,h2,h3,_⟩:=h
  simp only[leaves,List.length_append,leaves_len n l h1,leaves_len n r h2,size,ht,h3]
  rw[Nat.pow_succ];omega
theorem dig_log (n:Nat):∀ (t:MT),t.ok n→t.dig=Mt.log n t.leaves
 |leaf d,_=>(Mt.log_one n d).symm
 |node d l r,h=>by
  have hl:=leaves_len n _ h
  obtain⟨h1,h2,h3,h4⟩:=h
  have hl1:=leaves_len n l h1
  have hl2:=leaves_len n r h2
  have hb:Mt.below (node d l r).leaves.length=l.leaves.length:=by
   rw[hl,hl1]
   show Mt.below (2^(l.ht+1))=_
   rw[Mt.below_pow];rfl
  have hp:=size_pos l
  have hp2:=size_pos r
  rw[Mt.log_two _ _ (by simp only[leaves,List.length_append];omega),hb]
  simp only[leaves,List.take_left',List.drop_left',dig]
  rw[← dig_log n l h1,←dig_log n r h2,h4]
end MT
def Q0 (n:Nat):List MT→Prop
 |[]=>True
 |t :: ts=>t.ok n∧(∀ u∈ts,u.ht<t.ht)∧Q0 n ts
def Qj (ts:List MT):List (List UInt8):=ts.flatMap MT.leaves
def Z8 (n:Nat):List MT→MT→List MT
 |[],x=>[x]
 |r :: rs,x=>if r.ht=x.ht then Z8 n rs (.node (Dg.node n r.dig x.dig) r x) else x :: r :: rs
theorem Q0.last {n:Nat}:∀ {ts:List MT} {r:MT},Q0 n (ts++[r])→Q0 n ts∧r.ok n∧∀ u∈ts,r.ht<u.ht
 |[],r,h=>⟨trivial,h.1,by simp⟩
 |t :: ts,r,h=>by
  obtain⟨h1,h2,h3⟩:=h
  obtain⟨g1,g2,g3⟩:=Q0.last h3
  refine⟨⟨h1,fun u hu=>h2 u (by simp[hu]),g1⟩,g2,?_⟩
  intro u hu
  rcases List.mem_cons.1 hu with rfl|hu
  ·exact h2 r (by simp)
  ·exact g3 u hu
theorem Q0.snoc {n:Nat}:∀ {ts:List MT} {x:MT},Q0 n ts→x.ok n→(∀ u∈ts,x.ht<u.ht)→Q0 n (ts++[x])
 |[],x,_,hx,_=>⟨hx,by simp,trivial⟩
 |t :: ts,x,h,hx,hl=>by
  obtain⟨h1,h2,h3⟩:=h
  refine⟨h1,?_,Q0.snoc h3 hx (fun u hu=>hl u (by simp[hu]))⟩
  intro u hu
  rcases List.mem_append.1 hu with hu|hu
  ·exact h2 u hu
  ·rw[List.mem_singleton] at hu;subst hu;exact hl t (by simp)
theorem Q0.rest {n:Nat}:∀ {ts:List MT} {k:Nat},Q0 n ts→(∀ u∈ts,u.ht<k)→(Qj ts).length<2^k
 |[],k,_,_=>by simpa [Qj] using Nat.two_pow_pos k
 |t :: ts,k,h,hk=>by
  obtain⟨h1,h2,h3⟩:=h
  have hr:=Q0.rest h3 h2
  have ht:=hk t (by simp)
  have:(Qj (t :: ts)).length=t.size+(Qj ts).length:=by
   simp[Qj,MT.leaves_len n t h1]
  rw[this]
  have h2k:2^(t.ht+1)≤2^k:=Nat.pow_le_pow_right (by decide) ht
  rw[Nat.pow_succ] at h2k
  unfold MT.size
  omega
structure Xh (ops ops':Array Oper) (k:Nat) (o o':Oper):Prop where
 size:ops'.size=ops.size
 off:∀ j,j≠k→ops'[j]?=ops[j]?
 at0:ops[k]?=some o
 at1:ops'[k]?=some o'
 dst:o'.dst=o.dst
 after:o'.after=o.after
 guard:o.guard=none
 guard':o'.guard=none
section
variable {P:Program} {ops ops':Array Oper} {md:Region.Mode} {k:Nat} {o o':Oper}
theorem Xh.ready (h:Xh ops ops' k o o')(listed:Array Bool):Region.ready md ops' listed=Region.ready md ops listed:=by
 unfold Region.ready
 rw[h.size]
 congr 1
 funext i
 by_cases hi:i=k
 ·subst hi;rw[h.at0,h.at1];simp[h.after]
 ·rw[h.off i hi]
theorem Xh.yielded (h:Xh ops ops' k o o'):yielded ops'=yielded ops:=by
 funext tmps j
 unfold Go.yielded
 by_cases hj:j=k
 ·subst hj;rw[h.at0,h.at1];simp[h.dst]
 ·rw[h.off j hj]
theorem Xh.qOp (h:Xh ops ops' k o o'){C:World→Prop}{i:Nat}(hi:i≠k){K:Act→Prop}{a:Act}(hq:qOp P ops' C i K a):qOp P ops C i K a:=by
 unfold Go.qOp at*
 rw[h.off i hi,h.yielded] at hq
 exact hq
theorem Xh.seqB (h:Xh ops ops' k o o'):∀ (g j:Nat) (listed:Array Bool),Region.seqB md ops' g j listed=Region.seqB md ops g j listed
 |0,_,listed=>by unfold Region.seqB;rw[h.ready]
 |g+1,j,listed=>by unfold Region.seqB;rw[h.ready,Xh.seqB h g]
theorem ZQ (a:Act)(d:Option Tmp)(v:Value)(t:Tmp)(h:d≠some t):(a.put d v).tmps[t]?=a.tmps[t]?:=by
 cases d with
 |none=>rfl
 |some s=>simp only[Act.put];rw[Array.getElem?_setIfInBounds_ne (fun e=>h (by rw[e]))]
theorem Vu (a:Act)(d:Option Tmp)(v u:Value)(h:∀ t,d=some t→(a.put d v).tmps[t]?=(a.put d u).tmps[t]?):a.put d v=a.put d u:=by
 cases d with
 |none=>rfl
 |some s=>
  have:=h s rfl
  simp only[Act.put] at this ⊢
  by_cases hs:s<a.tmps.size
  ·rw[Array.getElem?_setIfInBounds_self_of_lt hs,Array.getElem?_setIfInBounds_self_of_lt hs] at this
   rw[Option.some.inj this]
  ·rw[Array.setIfInBounds_eq_of_size_le (Nat.le_of_not_lt hs),Array.setIfInBounds_eq_of_size_le (Nat.le_of_not_lt hs)]
theorem Ko {C:World→Prop}{n g:Nat}{L:Array Bool→Act→Prop}{Q':Exit→Act→World→Prop}(lk:Xh ops ops' k o o')(hL:∀ listed a w,C w→L listed a→wpAny P md ops Q' g listed a w):
 ∀ (f:Nat) (listed:Array Bool) (a:Act) (w:World),C w→listed.getD k true=true→QP P md ops' C n L f listed a→wpAny P md ops Q' (f+g) listed a w
 |0,listed,a,w,hw,_,h=>by rw[Nat.zero_add];exact hL _ _ _ hw h
 |f+1,listed,a,w,hw,hk,h=>by
  rw[show f+1+g=(f+g)+1 by omega]
  have h':=h
  rw[QP,lk.ready] at h'
  refine⟨fun h0=>absurd h0 h'.1,fun i hi=>?_⟩
  have hik:i≠k:=fun e=>by subst e;rw[(mem_ready.1 hi).1] at hk;cases hk
  exact wpOp_of_qOp hw (fun a' w' hw' h'=>Ko lk hL f _ a' w' hw' (by rw[getD_set_ne true hik];exact hk) h') (lk.qOp hik (h'.2 i hi).2)
theorem Kp {C:World→Prop}{n i:Nat}{X:Array Bool→Prop}{A:Act}{t:Tmp}(hd:∀ (j:Nat) (oj:Oper),ops[j]?=some oj→j≠i→oj.dst≠some t):
 ∀ (f:Nat) (listed:Array Bool) (a:Act),QP P md ops C n (fun listed a=>X listed∧a=A) f listed a→listed.getD i true=true→A.tmps[t]?=a.tmps[t]?
 |0,_,_,h,_=>by rw[h.2]
 |f+1,listed,a,h,hi=>by
  obtain⟨j,hj⟩:=List.exists_mem_of_ne_nil _ h.1
  obtain⟨hjl,oj,hoj,_⟩:=mem_ready.1 hj
  have hji:j≠i:=fun e=>by subst e;rw[hjl] at hi;cases hi
  obtain⟨v,_,hK⟩:=yieldsIn_of_qOp hoj (h.2 j hj).2
  rw[Kp hd f _ _ hK (by rw[getD_set_ne true hji];exact hi)]
  exact ZQ _ _ _ _ (hd j oj hoj hji)
theorem Q4 {listed:Array Bool}{i:Nat}(h:listed.getD i true=false):(listed.setIfInBounds i true).getD i true=true:=by
 have hi:i<listed.size:=by
  rcases Nat.lt_or_ge i listed.size with h'|h'
  ·exact h'
  ·simp[Array.getElem?_eq_none h'] at h
 simp[hi]
end
theorem Z9 {l:List Oper}(h:((List.range l.length).all fun i=>(List.range l.length).all fun j=>i == j || (match (l[i]?).bind (·.dst),(l[j]?).bind (·.dst) with|some a,some b=>a != b|_,_=>true))=true):
 ∀ (i j:Nat) (oi oj:Oper) (t:Tmp),l.toArray[i]?=some oi→l.toArray[j]?=some oj→j≠i→oi.dst=some t→oj.dst≠some t:=by
 intro i j oi oj t hi hj hji hd he
 rw[List.getElem?_toArray] at hi hj
 have hil:=(List.getElem?_eq_some_iff.1 hi).1
 have hjl:=(List.getElem?_eq_some_iff.1 hj).1
 have h1:=List.all_eq_true.1 h i (List.mem_range.2 hil)
 have h2:=List.all_eq_true.1 h1 j (List.mem_range.2 hjl)
 rw[hi,hj] at h2
 simp[hd,he,Ne.symm hji] at h2
theorem V7 {l:List Oper}{k:Nat}{o:Oper}(v:Value)(h:l[k]?=some o)(hg:o.guard=none):Xh l.toArray (l.set k {o with op:= .move (.const v)}).toArray k o {o with op:= .move (.const v)} where
 size:=by simp
 off:=fun j hj=>by simp[List.getElem?_set_ne (Ne.symm hj)]
 at0:=by simpa using h
 at1:=by have:=(List.getElem?_eq_some_iff.1 h).1;simp[this]
 dst:=rfl
 after:=rfl
 guard:=hg
 guard':=hg
theorem Vv {P:Program}{o:Oper}{T:TypeId}{z:Value}(ho:o.op= .alloc T)(hz:(P.info? T).bind (·.zero)=some z)(a:Act)(w':World):(execOp a.eval o).run P w'= .ok (.value (.pointer (some ⟨w'.heap.size,0,none⟩))) (w'.alloc (.cells z.cells T)):=by
 cases hq:P.info? T with
 |none=>simp[hq] at hz
 |some i=>
  have hz':i.zero=some z:=by simpa [hq] using hz
  simp[execOp,ho,Instr.alloc,zeroValue,typeInfo,hq,hz',newVar,newRow]
theorem ZB {P:Program}{md:Region.Mode}{ops:Array Oper}{C:World→Prop}{n:Nat}{L L':Array Bool→Act→Prop}(hL:∀ listed a,L listed a→HeadInv md ops n listed→L' listed a):
 ∀ (f:Nat) (listed:Array Bool) (a:Act),HeadInv md ops n listed→QP P md ops C n L f listed a→QP P md ops C n L' f listed a
 |0,_,_,hi,h=>hL _ _ h hi
 |f+1,_,_,hi,h=>⟨h.1,fun i hr=>⟨(h.2 i hr).1,qOp_mono (fun _ h'=>ZB hL f _ _ (hi.set hr (h.2 i hr).1) h') (h.2 i hr).2⟩⟩
structure X9 (ops ops':Array Oper) (k m:Nat):Prop where
 size:ops'.size=ops.size
 same:∀ j:Nat,(ops'[j]?).map (fun (o:Oper)=>(o.after,o.dst))=(ops[j]?).map (fun (o:Oper)=>(o.after,o.dst))
 off:∀ j:Nat,j≠k→j≠m→ops'[j]?=ops[j]?
section
variable {P:Program} {ops ops':Array Oper} {md:Region.Mode} {k m:Nat}
theorem X9.ready (h:X9 ops ops' k m)(listed:Array Bool):Region.ready md ops' listed=Region.ready md ops listed:=by
 unfold Region.ready
 rw[h.size]
 congr 1
 funext i
 have:=h.same i
 cases h1:ops'[i]?<;>cases h2:ops[i]?<;>simp[h1,h2] at this ⊢
 rw[this.1]
theorem X9.yielded (h:X9 ops ops' k m):yielded ops'=yielded ops:=by
 funext tmps j
 unfold Go.yielded
 have:=h.same j
 cases h1:ops'[j]?<;>cases h2:ops[j]?<;>simp[h1,h2] at this ⊢
 rw[this.2]
theorem X9.qOp (h:X9 ops ops' k m){C:World→Prop}{i:Nat}(hi:i≠k)(hi2:i≠m){K:Act→Prop}{a:Act}(hq:qOp P ops' C i K a):qOp P ops C i K a:=by
 unfold Go.qOp at*
 rw[h.off i hi hi2,h.yielded] at hq
 exact hq
theorem X9.seqB (h:X9 ops ops' k m):∀ (g j:Nat) (listed:Array Bool),Region.seqB md ops' g j listed=Region.seqB md ops g j listed
 |0,_,listed=>by unfold Region.seqB;rw[h.ready]
 |g+1,j,listed=>by unfold Region.seqB;rw[h.ready,X9.seqB h g]
theorem X9.dst (h:X9 ops ops' k m){j:Nat}{o o':Oper}(h1:ops[j]?=some o)(h2:ops'[j]?=some o'):o'.dst=o.dst:=by
 have:=h.same j
 rw[h1,h2] at this
 simp at this
 exact this.2
theorem X9.get (h:X9 ops ops' k m){j:Nat}{o':Oper}(h2:ops'[j]?=some o'):∃ o,ops[j]?=some o∧o'.dst=o.dst:=by
 have:=h.same j
 cases h1:ops[j]? with
 |none=>simp[h1,h2] at this
 |some o=>exact⟨o,rfl,h.dst h1 h2⟩
theorem V8 {C:World→Prop}{n g:Nat}{L:Array Bool→Act→Prop}{Q':Exit→Act→World→Prop}(lk:X9 ops ops' k m)(hL:∀ listed a w,C w→L listed a→wpAny P md ops Q' g listed a w):
 ∀ (f:Nat) (listed:Array Bool) (a:Act) (w:World),C w→listed.getD k true=true→listed.getD m true=true→QP P md ops' C n L f listed a→wpAny P md ops Q' (f+g) listed a w
 |0,listed,a,w,hw,_,_,h=>by rw[Nat.zero_add];exact hL _ _ _ hw h
 |f+1,listed,a,w,hw,hk,hm,h=>by
  rw[show f+1+g=(f+g)+1 by omega]
  have h':=h
  rw[QP,lk.ready] at h'
  refine⟨fun h0=>absurd h0 h'.1,fun i hi=>?_⟩
  have hik:i≠k:=fun e=>by subst e;rw[(mem_ready.1 hi).1] at hk;cases hk
  have him:i≠m:=fun e=>by subst e;rw[(mem_ready.1 hi).1] at hm;cases hm
  exact wpOp_of_qOp hw (fun a' w' hw' h'=>V8 lk hL f _ a' w' hw' (by rw[getD_set_ne true hik];exact hk) (by rw[getD_set_ne true him];exact hm) h') (lk.qOp hik him (h'.2 i hi).2)
theorem Ja {C:World→Prop}{n i:Nat}{X:Array Bool→Prop}{A a:Act}{oi:Oper}{t:Tmp}{f:Nat}{listed:Array Bool}(lk:X9 ops ops' k m)(hdist:∀ (i j:Nat) (oi oj:Oper) (t:Tmp),ops[i]?=some oi→ops[j]?=some oj→j≠i→oi.dst=some t→oj.dst≠some t)
 (hoi:ops[i]?=some oi) (ht:oi.dst=some t) (h:QP P md ops' C n (fun listed a=>X listed∧a=A) f listed a) (hi:listed.getD i true=true):A.tmps[t]?=a.tmps[t]?:=
 Kp (ops:=ops') (i:=i) (t:=t) (fun j oj hj hji=>by
  obtain⟨o,ho,hd⟩:=lk.get hj
  rw[hd]
  exact hdist i j oi o t hoi ho hji ht) f _ _ h hi
end
section
variable {P:Program} {ops:Array Oper} {opsF:Nat→Array Oper} {md:Region.Mode} {k m v n g0:Nat} {o om ov:Oper} {oF omF:Nat→Oper} {T:TypeId} {zs D:List Value} {A0:Act} {Q':Exit→Act→World→Prop} {w:World} {X:Nat→Array Bool→Prop} {tk tv:Tmp}
structure Qde (P:Program) (ops:Array Oper) (opsF:Nat→Array Oper) (md:Region.Mode) (k m v n g0:Nat) (o om ov:Oper) (T:TypeId) (zs D:List Value) (A0:Act) (Q':Exit→Act→World→Prop) (w:World) (X:Nat→Array Bool→Prop) (tk tv:Tmp):Prop where
 lk:∀ g,X9 ops (opsF g) k m
 ok:ops[k]?=some o
 om_:ops[m]?=some om
 ov_:ops[v]?=some ov
 okF:∀ g,∃ oF,(opsF g)[k]?=some oF∧oF.op= .move (.const (.pointer (some ⟨g,0,none⟩)))∧oF.guard=none
 omF:∀ g,∃ oF,(opsF g)[m]?=some oF∧oF.op= .move (.const undef)∧oF.guard=none
 gk:o.guard=none
 gm:om.guard=none
 dk:o.dst=some tk
 dv:ov.dst=some tv
 dm:om.dst=none
 al:∀ (a:Act) (w':World),(execOp a.eval o).run P w'= .ok (.value (.pointer (some ⟨w'.heap.size,0,none⟩))) (w'.alloc (.cells zs.toArray T))
 st:∀ (g:Nat) (a:Act) (w':World),a.tmps[tk]?=some (.pointer (some ⟨g,0,none⟩))→a.tmps[tv]?=A0.tmps[tv]?→Blk w' g T zs→(execOp a.eval om).run P w'= .ok .skip (w'.setCells g 0 D)
 zD:zs.length=D.length
 kn:k<n
 mn:m<n
 km:k≠m
 vk:v≠k
 wait_k:∃ e∈om.after,Region.binds md e=true∧e.on=k
 wait_v:∃ e∈om.after,Region.binds md e=true∧e.on=v
 dist:∀ (i j:Nat) (oi oj:Oper) (t:Tmp),ops[i]?=some oi→ops[j]?=some oj→j≠i→oi.dst=some t→oj.dst≠some t
 done:∀ g listed,X g listed→∀ i,i<n→listed.getD i true=true
 tks:∀ g,(A0.put o.dst (.pointer (some ⟨g,0,none⟩))).tmps[tk]?=some (.pointer (some ⟨g,0,none⟩))
 last:∀ (g:Nat) (listed:Array Bool) (w':World),w.heap.size≤g→Below w.heap.size w w'→Blk w' g T D→X g listed→wpAny P md ops Q' g0 listed (A0.put o.dst (.pointer (some ⟨g,0,none⟩))) w'
abbrev XQ (P:Program)(md:Region.Mode)(opsF:Nat→Array Oper)(n:Nat)(X:Nat→Array Bool→Prop)(A0:Act)(o:Oper)(w1:World)(g:Nat)(f:Nat)(listed:Array Bool)(a:Act):Prop:=
 QP P md (opsF g) (FC w1) n (fun listed a=>X g listed∧a=A0.put o.dst (.pointer (some ⟨g,0,none⟩))) f listed a
theorem Qap (F:Qde P ops opsF md k m v n g0 o om ov T zs D A0 Q' w X tk tv)(g:Nat)(hg:w.heap.size≤g):
 ∀ (f:Nat) (listed:Array Bool) (a:Act) (w':World),listed.getD k true=true→listed.getD m true=false→Below w.heap.size w w'→Blk w' g T zs→
   (∀ w1,Below w.heap.size w w1→XQ P md opsF n X A0 o w1 g f listed a)→wpAny P md ops Q' (f+g0) listed a w'
 |0,listed,a,w',_,hm,_,_,h=>by
  have:=F.done _ _ (h w (Below.refl _ _)).1 m F.mn
  rw[hm] at this;cases this
 |f+1,listed,a,w',hk,hm,hb,hbk,h=>by
  rw[show f+1+g0=(f+g0)+1 by omega]
  have h0:=h w' hb
  have h0':=h0
  unfold XQ at h0
  rw[QP,(F.lk _).ready] at h0
  refine⟨fun e=>absurd e h0.1,fun i hi=>?_⟩
  have hik:i≠k:=fun e=>by subst e;rw[(mem_ready.1 hi).1] at hk;cases hk
  by_cases him:i=m
  ·subst him
   have hvl:listed.getD v true=true:=by
    obtain⟨_,o2,ho2,hall⟩:=mem_ready.1 hi
    rw[F.om_] at ho2;cases ho2
    obtain⟨e,he,hbd,hon⟩:=F.wait_v
    have:=hall e he hbd
    rw[hon] at this
    rcases Nat.lt_or_ge v listed.size with hlt|hge
    ·simp[hlt] at this ⊢;exact this
    ·simp[Array.getElem?_eq_none hge] at this
   have s1:=Ja (F.lk g) F.dist F.ok F.dk h0' hk
   have s2:=Ja (F.lk g) F.dist F.ov_ F.dv h0' hvl
   rw[F.tks] at s1
   have htv:(A0.put o.dst (.pointer (some ⟨g,0,none⟩))).tmps[tv]?=A0.tmps[tv]?:=ZQ _ _ _ _ (F.dist v k ov o tv F.ov_ F.ok (Ne.symm F.vk) F.dv)
   rw[htv] at s2
   have hrun:=F.st g a w' s1.symm s2.symm hbk
   unfold wpOp
   rw[F.om_]
   have hwant:Region.wanted om (Go.yielded ops a.tmps)=true:=by unfold Region.wanted;rw[F.gm]
   simp only[hwant,if_true]
   refine .inl ?_
   unfold Oper.wp
   rw[hrun]
   have hk2:Qu (· =g) w' (w'.setCells g 0 D):=(Qu.refl _ _).setN 0 _
   have hb2:Below w.heap.size w (w'.setCells g 0 D):=hk2.step hb hb.size (fun j hj=>by show ¬_=_;omega)
   have hbD:Blk (w'.setCells g 0 D) g T D:=by
    have:=Blk.setCells D 0 zs hbk (by rw[F.zD];omega)
    rwa [XL zs D F.zD] at this
   have h2:=h (w'.setCells g 0 D) hb2
   unfold XQ at h2
   rw[QP,(F.lk _).ready] at h2
   obtain⟨oF,hoF,_,_⟩:=F.omF g
   obtain⟨vv,_,hK⟩:=yieldsIn_of_qOp hoF (h2.2 i hi).2
   have hd:oF.dst=none:=by rw[(F.lk g).dst F.om_ hoF,F.dm]
   rw[hd] at hK
   refine V8 (F.lk g) (C:=FC (w'.setCells g 0 D)) (g:=g0) (n:=n) (L:=fun listed a=>X g listed∧a=A0.put o.dst (.pointer (some ⟨g,0,none⟩))) ?_ f _ _ _ ⟨Fut.here _,rfl⟩ (by rw[getD_set_ne true (Ne.symm F.km)];exact hk) (Q4 hm) ?_
   ·rintro l2 a2 w2 ⟨s,rfl⟩ ⟨hX,rfl⟩
    exact F.last _ _ _ hg (hb2.trans (s.below.mono hb2.size)) (hbD.grown s.below) hX
   ·show QP P md (opsF g) _ n _ f _ (a.put om.dst undef)
    rw[F.dm]
    exact hK
  ·obtain⟨hil,oi,hoi,_⟩:=mem_ready.1 hi
   have hoi':(opsF g)[i]?=some oi:=by rw[(F.lk g).off i hik him];exact hoi
   obtain⟨vv,hy,hK⟩:=yieldsIn_of_qOp hoi' (h0.2 i hi).2
   have hnext:∀ w1,Below w.heap.size w w1→XQ P md opsF n X A0 o w1 g f (listed.setIfInBounds i true) (a.put oi.dst vv):=by
    intro w1 hb1
    have h1:=h w1 hb1
    unfold XQ at h1
    rw[QP,(F.lk _).ready] at h1
    obtain⟨v1,_,hK1⟩:=yieldsIn_of_qOp hoi' (h1.2 i hi).2
    unfold XQ
    rw[Vu a oi.dst vv v1 (fun t ht=>by
     rw[← Ja (F.lk g) F.dist hoi ht hK (Q4 hil),←Ja (F.lk g) F.dist hoi ht hK1 (Q4 hil)])]
    exact hK1
   have hq:qOp P ops (FC w') i (fun a'=>a'=a.put oi.dst vv) a:=by
    refine YieldsIn.qOp hoi ?_ rfl
    unfold YieldsIn at hy ⊢
    rw[(F.lk _).yielded] at hy
    exact hy
   refine wpOp_of_qOp (C:=FC w') ⟨Fut.here _,rfl⟩ ?_ hq
   rintro a' w2 ⟨s,rfl⟩ rfl
   exact Qap F g hg f _ _ _ (by rw[getD_set_ne true hik];exact hk) (by rw[getD_set_ne true him];exact hm) (hb.trans (s.below.mono hb.size)) (hbk.grown s.below) hnext
theorem YU (F:Qde P ops opsF md k m v n g0 o om ov T zs D A0 Q' w X tk tv):
 ∀ (f:Nat) (listed:Array Bool) (a:Act) (w':World),listed.getD k true=false→listed.getD m true=false→Below w.heap.size w w'→
   (∀ w1 g,Below w.heap.size w w1→w.heap.size≤g→XQ P md opsF n X A0 o w1 g f listed a)→wpAny P md ops Q' (f+g0) listed a w'
 |0,listed,a,w',hk,_,_,h=>by
  have:=F.done _ _ (h w w.heap.size (Below.refl _ _) (Nat.le_refl _)).1 k F.kn
  rw[hk] at this;cases this
 |f+1,listed,a,w',hk,hm,hb,h=>by
  rw[show f+1+g0=(f+g0)+1 by omega]
  have h0:=h w' w.heap.size hb (Nat.le_refl _)
  unfold XQ at h0
  rw[QP,(F.lk _).ready] at h0
  refine⟨fun e=>absurd e h0.1,fun i hi=>?_⟩
  have him:i≠m:=fun e=>by
   subst e
   obtain⟨_,o2,ho2,hall⟩:=mem_ready.1 hi
   rw[F.om_] at ho2;cases ho2
   obtain⟨e,he,hbd,hon⟩:=F.wait_k
   have:=hall e he hbd
   rw[hon,getD_both hk] at this
   cases this
  by_cases hik:i=k
  ·subst hik
   have hb1:Below w.heap.size w (w'.alloc (.cells zs.toArray T)):=hb.alloc hb.size _
   unfold wpOp
   rw[F.ok]
   have hwant:Region.wanted o (Go.yielded ops a.tmps)=true:=by unfold Region.wanted;rw[F.gk]
   simp only[hwant,if_true]
   refine .inl ?_
   unfold Oper.wp
   rw[F.al]
   refine Qap F w'.heap.size hb.size f _ _ _ (Q4 hk) (by rw[getD_set_ne true him];exact hm) hb1 (Blk.new w' T zs) ?_
   intro w1 hb2
   have h1:=h w1 w'.heap.size hb2 hb.size
   unfold XQ at h1
   rw[QP,(F.lk _).ready] at h1
   obtain⟨oF,hoF,hop,hgd⟩:=F.okF w'.heap.size
   obtain⟨v1,hy,hK⟩:=yieldsIn_of_qOp hoF (h1.2 i hi).2
   have hv:v1= .pointer (some ⟨w'.heap.size,0,none⟩):=by
    rcases hy with ⟨_,hq⟩|⟨hw,_⟩
    ·have:=hq _ (⟨Fut.here _,rfl⟩:FC w1 w1)
     unfold Oper.quietAt at this
     rw[BigFrame.run_move _ hop] at this
     exact this.2.symm
    ·unfold Region.wanted at hw;rw[hgd] at hw;cases hw
   subst hv
   rw[(F.lk _).dst F.ok hoF] at hK
   exact hK
  ·obtain⟨hil,oi,hoi,_⟩:=mem_ready.1 hi
   have hoi':∀ g,(opsF g)[i]?=some oi:=fun g=>by rw[(F.lk g).off i hik him];exact hoi
   obtain⟨vv,hy,hK⟩:=yieldsIn_of_qOp (hoi' _) (h0.2 i hi).2
   have hset:∀ g (u:Value) (w1:World),XQ P md opsF n X A0 o w1 g f (listed.setIfInBounds i true) (a.put oi.dst u)→∀ t,oi.dst=some t→A0.tmps[t]?=(a.put oi.dst u).tmps[t]?:=by
    intro g u w1 hh t ht
    rw[← Ja (F.lk g) F.dist hoi ht hh (Q4 hil)]
    exact (ZQ _ _ _ _ (F.dist i k oi o t hoi F.ok (Ne.symm hik) ht)).symm
   have hnext:∀ w1 g,Below w.heap.size w w1→w.heap.size≤g→XQ P md opsF n X A0 o w1 g f (listed.setIfInBounds i true) (a.put oi.dst vv):=by
    intro w1 g hb1 hg
    have h1:=h w1 g hb1 hg
    unfold XQ at h1
    rw[QP,(F.lk _).ready] at h1
    obtain⟨v1,_,hK1⟩:=yieldsIn_of_qOp (hoi' g) (h1.2 i hi).2
    unfold XQ
    rw[Vu a oi.dst vv v1 (fun t ht=>by rw[← hset _ _ _ hK t ht,←hset _ _ _ hK1 t ht])]
    exact hK1
   have hq:qOp P ops (FC w') i (fun a'=>a'=a.put oi.dst vv) a:=by
    refine YieldsIn.qOp hoi ?_ rfl
    unfold YieldsIn at hy ⊢
    rw[(F.lk _).yielded] at hy
    exact hy
   refine wpOp_of_qOp (C:=FC w') ⟨Fut.here _,rfl⟩ ?_ hq
   rintro a' w2 ⟨s,rfl⟩ rfl
   exact YU F f _ _ _ (by rw[getD_set_ne true hik];exact hk) (by rw[getD_set_ne true him];exact hm) (hb.trans (s.below.mono hb.size)) hnext
end
def Zt (l:List Oper)(k m:Nat)(o om:Oper)(g:Nat):List Oper:=(l.set k {o with op:= .move (.const (.pointer (some ⟨g,0,none⟩)))}).set m {om with op:= .move (.const undef)}
theorem Qbp {l:List Oper}{k m:Nat}{o om:Oper}(hk:l[k]?=some o)(hm:l[m]?=some om)(hkm:k≠m)(g:Nat):X9 l.toArray (Zt l k m o om g).toArray k m where
 size:=by simp[Zt]
 same:=fun j=>by
  have h1:=(List.getElem?_eq_some_iff.1 hk)
  have h2:=(List.getElem?_eq_some_iff.1 hm)
  unfold Zt
  rw[List.getElem?_toArray,List.getElem?_toArray]
  by_cases hjm:j=m
  ·subst hjm;rw[List.getElem?_set_self (by simpa using h2.1),hm];rfl
  ·rw[List.getElem?_set_ne (Ne.symm hjm)]
   by_cases hjk:j=k
   ·subst hjk;rw[List.getElem?_set_self h1.1,hk];rfl
   ·rw[List.getElem?_set_ne (Ne.symm hjk)]
 off:=fun j hj hj2=>by
  unfold Zt
  rw[List.getElem?_toArray,List.getElem?_toArray,List.getElem?_set_ne (Ne.symm hj2),List.getElem?_set_ne (Ne.symm hj)]
theorem ZY {P:Program}{id:Nat}{Q:Exit→Act→World→Prop}{a:Act}{w:World}{l:List Oper}(n k m v:Nat)(o om ov:Oper)(T:TypeId)(zs D:List Value)(z:Value)(tk tv:Tmp)(A0:Act)
 (hmo:P.follows .mixedOrders=true) (hk:l[k]?=some o) (hmm:l[m]?=some om) (hv:l[v]?=some ov) (ho:o.op= .alloc T) (hom:om.op= .store T (.tmp tk) (.tmp tv)) (hdk:o.dst=some tk) (hdv:ov.dst=some tv) (hdm:om.dst=none)
 (hz:(P.info? T).bind (·.zero)=some z) (hzs:z.cells=zs.toArray) (hsz:(P.info? T).map (·.size)=some D.length) (hzD:zs.length=D.length) (hD1:∀ v∈D,v.oneCell'=true) (hg:o.guard=none) (hgm:om.guard=none) (hkn:k<n) (hmn:m<n) (hkm:k≠m) (hvk:v≠k)
 (hwk:(om.after.any fun e=>Region.binds .any e && e.on == k)=true) (hwv:(om.after.any fun e=>Region.binds .any e && e.on == v)=true)
 (hB:∀ g,Region.lexTailB .any (Zt l k m o om g).toArray n=true)
 (hd:((List.range l.length).all fun i=>(List.range l.length).all fun j=>i == j || (match (l[i]?).bind (·.dst),(l[j]?).bind (·.dst) with|some a,some b=>a != b|_,_=>true))=true)
 (hA:A0.tmps[tv]?=some (.agg D.toArray)) (hAk:tk<A0.tmps.size)
 (h:∀ (w1:World) (g:Nat),Below w.heap.size w w1→w.heap.size≤g→wpQuiet P (Zt l k m o om g).toArray (fun w'=>∃ s:Fut w1,w'=s.v) (fun a'=>a'=A0.put o.dst (.pointer (some ⟨g,0,none⟩))) ((Zt l k m o om g).take n) a)
 (ht:∀ (g:Nat) (w':World),w.heap.size≤g→Below w.heap.size w w'→Blk w' g T D→wpList P l.toArray Q (l.drop n) (A0.put o.dst (.pointer (some ⟨g,0,none⟩))) w'):(Code.region id l.toArray true).wp P Q a w:=by
 have lk:=fun g=>Qbp hk hmm hkm g
 have hB':=fun g=>hB g
 simp only[Region.lexTailB,Bool.and_eq_true,decide_eq_true_eq] at hB'
 have hlen:∀ g,(Zt l k m o om g).toArray.size=l.length:=fun g=>by simp[Zt]
 have hn:n<l.length:=by have:=(hB' 0).1.1.1.2;rw[hlen] at this;exact this
 have hdl:(l.drop n).length=l.length-n:=by simp
 refine wp_region_any hmo ?_
 have F:Qde P l.toArray (fun g=>(Zt l k m o om g).toArray) .any k m v n (l.length-n) o om ov T zs D A0 Q w (fun g listed=>Region.seqB .any (Zt l k m o om g).toArray (l.length-n) n listed=true∧∀ i,i<n→listed.getD i true=true) tk tv:=by
  refine⟨lk,by simpa using hk,by simpa using hmm,by simpa using hv,fun g=>⟨{o with op:= .move (.const (.pointer (some ⟨g,0,none⟩)))},?_,rfl,hg⟩,fun g=>⟨{om with op:= .move (.const undef)},?_,rfl,hgm⟩,hg,hgm,hdk,hdv,hdm,
   fun a w'=>by rw[Vv ho hz,hzs],?_,hzD,hkn,hmn,hkm,hvk,?_,?_,Z9 hd,fun g listed hX=>hX.2,?_,?_⟩
  ·have h1:=(List.getElem?_eq_some_iff.1 hk).1
   unfold Zt
   rw[List.getElem?_toArray,List.getElem?_set_ne (Ne.symm hkm),List.getElem?_set_self h1]
  ·have h2:=(List.getElem?_eq_some_iff.1 hmm).1
   unfold Zt
   rw[List.getElem?_toArray,List.getElem?_set_self (by simpa using h2)]
  ·intro g a w' h1 h2 hb
   rw[hA] at h2
   have hth:=hb.there 0 D.length (by rw[hzD];omega)
   have e1:a.eval (.tmp tk)= .pointer (some ⟨g,0,none⟩):=by simp[Act.eval,Array.getD_eq_getD_getElem?,h1]
   have e2:a.eval (.tmp tv)= .agg D.toArray:=by simp[Act.eval,Array.getD_eq_getD_getElem?,h2]
   have:=run_storeVar_mid (P:=P) w' g 0 T D.toArray (by simpa using hth) (by simpa using hsz) (all_oneCell_toArray hD1)
   unfold execOp
   simp only[hom,e1,e2,Instr.storeAt,Instr.sureAddr,Sem.run_bind,Sem.run_pure,Result.andThen_ok,this]
  ·obtain⟨e,he,h1⟩:=Array.any_eq_true'.1 hwk
   simp only[Bool.and_eq_true,beq_iff_eq] at h1
   exact⟨e,he,h1.1,h1.2⟩
  ·obtain⟨e,he,h1⟩:=Array.any_eq_true'.1 hwv
   simp only[Bool.and_eq_true,beq_iff_eq] at h1
   exact⟨e,he,h1.1,h1.2⟩
  ·intro g
   rw[hdk]
   simp[Act.put,hAk]
  ·intro g listed w' hg1 hb hbk hX
   have hs:=hX.1
   rw[(lk g).seqB] at hs
   have:=wpAny_of_seq (md:= .any) (ops:=l.toArray) (Q':=Q) (l.drop n) n listed (A0.put o.dst (.pointer (some ⟨g,0,none⟩))) w' (fun j=>by simp[List.getElem?_drop]) (by rw[hdl];exact hs) (ht g w' hg1 hb hbk)
   rwa [hdl] at this
 have hfin:∀ (w1:World) (g:Nat),Below w.heap.size w w1→w.heap.size≤g→XQ P .any (fun g=>(Zt l k m o om g).toArray) n (fun g listed=>Region.seqB .any (Zt l k m o om g).toArray (l.length-n) n listed=true∧∀ i,i<n→listed.getD i true=true) A0 o w1 g n (Array.replicate l.length false) a:=by
  intro w1 g hb1 hg1
  obtain⟨⟨⟨⟨hsel,hn'⟩,hs⟩,hc⟩,hlex⟩:=hB' g
  have hsz:=hlen g
  rw[hsz] at hlex hn'
  have htl:((Zt l k m o om g).take n).length=n:=by simp[Zt];omega
  have inv0:HeadInv .any (Zt l k m o om g).toArray n (Array.replicate l.length false):=
   ⟨by simp[Zt],fun j oj _ hl=>(by rw[getD_replicate_false] at hl;cases hl),fun t _ ht'=>getD_in (by rw[hsz] at ht';simpa using ht') (getD_replicate_false _ _)⟩
  have H:=X8 (P:=P) (md:= .any) (C:=FC w1) (g:=l.length-n) hsel hs hc (by rw[hsz];exact hn') ((Zt l k m o om g).take n) 0 _ a (fun j hj=>by
   have hj':j<n:=by rw[htl] at hj;exact hj
   simp[hj']) (by simpa using htl) inv0 (by rw[htl];exact hlex) (h w1 g hb1 hg1)
  rw[htl] at H
  refine ZB ?_ n _ _ inv0 H
  rintro listed a' ⟨h1,h2⟩ hinv
  refine⟨⟨h1,fun i hi=>?_⟩,h2⟩
  rcases hli:listed.getD i true with _|_
  ·exfalso
   have hready:n∈Region.ready .any (Zt l k m o om g).toArray listed:=by
    obtain⟨q,hq⟩:∃ q,l.length-n=q+1:=⟨l.length-n-1,by omega⟩
    rw[hq] at h1
    simp only[Region.seqB,Bool.and_eq_true,decide_eq_true_eq] at h1
    rw[h1.1];simp
   exact tail_waits hs hc (by rw[hsz];exact hn') hinv _ i rfl hi hli n (Nat.le_refl _) hready
  ·rfl
 have:=YU F n (Array.replicate l.length false) a {w with drawn:=w.drawn+1} (getD_in (by simp;have:=(List.getElem?_eq_some_iff.1 hk).1;omega) (getD_replicate_false _ _)) (getD_in (by simp;have:=(List.getElem?_eq_some_iff.1 hmm).1;omega) (getD_replicate_false _ _)) (Below.refl _ _).drew hfin
 rw[show n+(l.length-n)=l.toArray.size by simp;omega] at this
 simpa using this
end Go.Proofs.YtpnakfeafekneaaGreatDoor
