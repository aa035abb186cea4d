/- Part 33 of this proof. -/
import Derived.Test.YtpnakfeafekneaaGreatDoorG32
set_option linter.unusedSimpArgs false
set_option linter.unusedVariables false
set_option maxHeartbeats 8000000
set_option maxRecDepth 100000
namespace Go.Proofs.YtpnakfeafekneaaGreatDoor
open Go.RowKit
theorem Sn.fold_srt (n:Nat):∀ (es:List Ent) (m:List Pr),Hm.Srt n m→Hm.Srt n (es.foldl (Sn.step n) m)
 |[],m,h=>h
 |e :: es,m,h=>by
  rw[List.foldl_cons]
  refine Sn.fold_srt n es _ ?_
  unfold Sn.step
  split
  ·exact Hm.ins_srt h
  ·exact Hm.del_srt h
theorem Sn.map_srt (n:Nat)(es:List Ent):Hm.Srt n (Sn.map n es):=Sn.fold_srt n es [] List.Pairwise.nil
theorem Sn.fold_mem (n:Nat)(Q:List UInt8→List UInt8→Prop):∀ (es:List Ent) (m:List Pr),(∀ e∈es,Q e.key e.val)→(∀ p∈m,Q p.key p.val)→∀ p∈es.foldl (Sn.step n) m,Q p.key p.val
 |[],m,_,h=>h
 |e :: es,m,he,h=>by
  rw[List.foldl_cons]
  refine Sn.fold_mem n Q es _ (fun x hx=>he x (by simp[hx])) ?_
  intro p hp
  unfold Sn.step at hp
  split at hp
  ·rcases Hm.mem_ins hp with rfl|hp
   ·exact he e (by simp)
   ·exact h p hp
  ·exact h p (List.mem_filter.1 hp).1
theorem Sn.map_mem (n:Nat)(Q:List UInt8→List UInt8→Prop)(es:List Ent)(he:∀ e∈es,Q e.key e.val):∀ p∈Sn.map n es,Q p.key p.val:=Sn.fold_mem n Q es [] he (fun p hp=>by cases hp)
theorem J5 {α:Type}(a b:α→Bool)(h:∀ x,a x=true→b x=false):∀ m:List α,(m.filter a).length+(m.filter b).length≤m.length
 |[]=>by simp
 |x :: m=>by
  have:=J5 a b h m
  rw[List.filter_cons,List.filter_cons]
  by_cases ha:a x=true
  ·rw[if_pos ha,h x ha];simp;omega
  ·rw[if_neg ha]
   split<;>simp only[List.length_cons]<;>omega
theorem Hm.ins_len (n:Nat)(x:Pr)(m:List Pr):(Hm.ins n x m).length≤m.length+1:=by
 unfold Hm.ins
 have:=J5 (fun p=>decide (Hm.cmp n p x<0)) (fun p=>decide (0<Hm.cmp n p x)) (fun p hp=>by simp at hp ⊢;omega) m
 rw[List.length_append,List.length_cons];omega
theorem Sn.fold_len (n:Nat):∀ (es:List Ent) (m:List Pr),(es.foldl (Sn.step n) m).length≤m.length+es.length
 |[],m=>by simp
 |e :: es,m=>by
  rw[List.foldl_cons]
  have h1:=Sn.fold_len n es (Sn.step n m e)
  have h2:(Sn.step n m e).length≤m.length+1:=by
   unfold Sn.step
   split
   ·exact Hm.ins_len n _ m
   ·exact Nat.le_trans (List.length_filter_le _ _) (by omega)
  rw[List.length_cons];omega
theorem Sn.map_len (n:Nat)(es:List Ent):(Sn.map n es).length≤es.length:=by
 have:=Sn.fold_len n es []
 rw[List.length_nil,Nat.zero_add] at this
 exact this
theorem Vf:∀ (m:List Pr),(∀ p∈m,p.key.length<1048576∧p.val.length<1048576)→QS m≤m.length*2097200
 |[],_=>by simp[QS]
 |p :: m,h=>by
  have h0:=Vf m (fun q hq=>h q (by simp[hq]))
  obtain⟨h1,h2⟩:=h p (by simp)
  have u1:=Wi.uvar_length 9 p.key.length (by omega)
  have u2:=Wi.uvar_length 9 p.val.length (by omega)
  unfold QS Wi.blob at h0 ⊢
  simp only[List.flatMap_cons,List.length_append,List.length_cons] at h0 ⊢
  omega
theorem WX (n:Nat)(h2:n≤32)(es:List Ent)(A:Option Addr)(m c:Nat)(L:List (List Value))(w:World)(hm:es.length=m)(hA:Rd w A L.flatten)(hE:QK w L es)(hn:m<65536)(hb:∀ e∈es,e.key.length<1048576∧e.val.length<1048576):
 Calls Tryz.prog 64 #[.int .i64 n,.slice A m c] w fun e w'=>∃ A' k' c',e= .returned (.slice A' k' c')∧Below w.heap.size w w'∧Zw w' n A' k' c' (Sn.map n es):=by
 have HA:=hid (Qa hA (Qa hE hb))
 clear hA hE hb
 go_enter Tryz.func64,Tryz.ntmps64
 go_wp2_with fail
 go_loopg [5,10] m (fun g s3 i wr=>∃ (j:Nat) (A':Option Addr) (k' c':Nat),j+g=m∧i= .int .i64 j∧s3= .slice A' k' c'∧k'≤j∧Zw wr n A' k' c' (Sn.map n (es.take j))∧Below w.heap.size w wr)
 case atStart=>exact⟨0,none,0,0,by omega,rfl,rfl,Nat.le_refl _,⟨rfl,Nat.le_refl _,[],Rd.nil _ _,Xs.nil _ _⟩,Below.refl _ _⟩
 case round=>
  obtain⟨j,A',k',c',hj,rfl,rfl,hkj,hi,hbl⟩:=hrel
  have HR:=hid (Qa hi hbl)
  clear hi hbl
  by_cases hlt:j<m
  ·have hje:j<es.length:=by omega
   obtain⟨kind,key,val,hjj⟩:∃ kind key val,es[j]?=some ⟨kind,key,val⟩:=⟨es[j].kind,es[j].key,es[j].val,by simp[hje]⟩
   have hnx:Sn.map n (es.take (j+1))=Sn.step n (Sn.map n (es.take j)) ⟨kind,key,val⟩:=by
    rw[List.take_succ_eq_append_getElem hje,Sn.map_snoc,(List.getElem?_eq_some_iff.1 hjj).2]
   have hsub:∀ e∈es.take j,e.key.length<1048576∧e.val.length<1048576:=fun e he=>HA.out.2.2 e (List.mem_of_mem_take he)
   have hmsz:=Sn.map_mem n (fun k v=>k.length<1048576∧v.length<1048576) (es.take j) hsub
   have hsrt:=Sn.map_srt n (es.take j)
   have hlen1:=Sn.map_len n (es.take (j+1))
   have htl:(es.take (j+1)).length=j+1:=by rw[List.length_take];omega
   have hL:=HA.out.2.1.len
   have hjl:j<L.length:=by omega
   obtain⟨g,o,rfl,hr⟩:=HA.out.1 (by
    intro e
    have:=Qk 3 _ HA.out.2.1.three
    rw[e] at this
    simp at this;omega)
   have hp:=Qt hr HA.out.2.1.three j hjl
   have hbk:=HA.out.2.2 _ (List.mem_of_getElem? hjj)
   obtain⟨A1,c1',A2,c2',hx,hr1,hr2,hc1,hc2⟩:=HA.out.2.1.at_ j L[j] ⟨kind,key,val⟩ (by simp[hjl]) hjj
   rw[hx] at hp
   simp only[] at hp hr1 hr2 hbk
   have hlb:=Qo hp (by simp)
   have hp2:=Qh hp HR.out.2 hlb
   have hoc:∀ v∈[b8 kind,.slice A1 key.length c1',.slice A2 val.length c2'],v.oneCell'=true:=fun v hv=>by
    simp only[List.mem_cons,List.not_mem_nil,or_false] at hv
    rcases hv with rfl|rfl|rfl<;>rfl
   obtain⟨nk,hnk⟩:∃ nk,key.length=nk:=⟨_,rfl⟩
   obtain⟨nv,hnv⟩:∃ nv,val.length=nv:=⟨_,rfl⟩
   rw[hnk,hnv] at hp2 hoc hbk
   have hblk:=Blk.new wr 36 [b8 kind,.slice A1 nk c1',.slice A2 nv c2']
   have k0:(wr.alloc (.cells #[b8 kind,.slice A1 nk c1',.slice A2 nv c2'] 36)).cell? ⟨wr.heap.size,0,none⟩=some (b8 kind):=hblk.cell 0
   have k1:(wr.alloc (.cells #[b8 kind,.slice A1 nk c1',.slice A2 nv c2'] 36)).cell? ⟨wr.heap.size,1,none⟩=some (.slice A1 nk c1'):=hblk.cell 1
   have k2:(wr.alloc (.cells #[b8 kind,.slice A1 nk c1',.slice A2 nv c2'] 36)).cell? ⟨wr.heap.size,2,none⟩=some (.slice A2 nv c2'):=hblk.cell 2
   have hb1:=Qb wr (.cells #[b8 kind,.slice A1 nk c1',.slice A2 nv c2'] 36)
   have HX:=hid (Qa hnx (Qa hnk (Qa hnv (Qa hr1 (Qa hr2 (Qa hb1 (Qa hmsz (Qa hsrt (Qa hlen1 htl)))))))))
   clear hnx hnk hnv hr1 hr2 hb1 hmsz hsrt hlen1 htl hr hx hp hc1 hc2 hL hlb hblk hsub
   by_cases hkd:kind=1
   ·subst hkd
    go_wp2_with (first
     |((with_reducible refine Qf 36 (.tmp 12) g (o+j*3) _ 3 _ rfl hp2 Tryz.underlying36 rfl (by kernel_rfl) ?_ ?_ ?_ ?_);rfl;rfl;rfl)
     |((with_reducible refine Qw 36 (.tmp 7) (.tmp 13) _ _ [b8 1,.slice A1 nk c1',.slice A2 nv c2'] 3 rfl ?_ (by kernel_rfl) hoc ?_ ?_ ?_ ?_ ?_);rfl;rfl;rfl;rfl;rfl)
     |(go_at_call 103
       refine (Qec n h2 A' k' c' _ A1 nk c1' key A2 nv c2' val _ (HR.out.1.grown HX.out.2.2.2.2.2.1) HX.out.2.2.2.2.2.2.2.1 HX.out.2.1 HX.out.2.2.1 (HX.out.2.2.2.1.grown (gro HR.out.2 HX.out.2.2.2.2.2.1)) (HX.out.2.2.2.2.1.grown (gro HR.out.2 HX.out.2.2.2.2.2.1)) (by omega) hbk.1 hbk.2 (fun p hp=>(HX.out.2.2.2.2.2.2.1 p hp).1)).mono ?_
       rintro e w5 ⟨A5,k5,c5,rfl,hb5,hs5⟩
       have H5:=hid (Qa (gro HX.out.2.2.2.2.2.1 hb5) hs5)
       clear hb5 hs5))
    go_roundg (gk-1)
    case measure=>omega
    case rel=>
     have hstep:Sn.map n (es.take (j+1))=Hm.ins n ⟨key,val⟩ (Sn.map n (es.take j)):=by rw[HX.out.1];unfold Sn.step;rw[if_pos rfl]
     refine⟨j+1,A5,k5,c5,by omega,by go_num,rfl,?_,by rw[hstep];exact H5.out.2,gro HR.out.2 H5.out.1⟩
     have h1:=HX.out.2.2.2.2.2.2.2.2.1;have h3:=HX.out.2.2.2.2.2.2.2.2.2;have h4:=H5.out.2.1
     rw[hstep] at h1;omega
   ·have hf:(n8 kind == 1)=false:=by
     have:n8 kind≠1:=fun h=>hkd (Ka (by rw[h];rfl))
     simpa using this
    go_wp2_with (first
     |((with_reducible refine Qf 36 (.tmp 12) g (o+j*3) _ 3 _ rfl hp2 Tryz.underlying36 rfl (by kernel_rfl) ?_ ?_ ?_ ?_);rfl;rfl;rfl)
     |((with_reducible refine Qw 36 (.tmp 7) (.tmp 13) _ _ [b8 kind,.slice A1 nk c1',.slice A2 nv c2'] 3 rfl ?_ (by kernel_rfl) hoc ?_ ?_ ?_ ?_ ?_);rfl;rfl;rfl;rfl;rfl)
     |(go_at_call 104
       refine (UH n h2 A' k' c' _ A1 nk c1' key _ (HR.out.1.grown HX.out.2.2.2.2.2.1) HX.out.2.1 (HX.out.2.2.2.1.grown (gro HR.out.2 HX.out.2.2.2.2.2.1)) (by omega) hbk.1 (fun p hp=>(HX.out.2.2.2.2.2.2.1 p hp).1)).mono ?_
       rintro e w5 ⟨A5,k5,c5,b5,rfl,hb5,hs5⟩
       have H5:=hid (Qa (gro HX.out.2.2.2.2.2.1 hb5) hs5)
       clear hb5 hs5))
    go_roundg (gk-1)
    case measure=>omega
    case rel=>
     have hstep:Sn.map n (es.take (j+1))=Hm.del key (Sn.map n (es.take j)):=by rw[HX.out.1];unfold Sn.step;rw[if_neg hkd]
     refine⟨j+1,A5,k5,c5,by omega,by go_num,rfl,?_,by rw[hstep];exact H5.out.2,gro HR.out.2 H5.out.1⟩
     have h1:=HX.out.2.2.2.2.2.2.2.2.1;have h3:=HX.out.2.2.2.2.2.2.2.2.2;have h4:=H5.out.2.1
     rw[hstep] at h1;omega
  ·obtain rfl:j=m:=by omega
   have hfin:=HR.out.1
   rw[List.take_of_length_le (by omega)] at hfin
   have HF:=hid hfin
   clear hfin
   go_wp2_with fail
   go_ret
   exact⟨A',k',c',rfl,HR.out.2,HF.out⟩
theorem Sn.root_ok2 (n:Nat)(h2:n≤32)(es:List Ent)(hl:es.length<1048576):Je (Sn.root n es):=by
 refine⟨Mt.log_len n h2 _ ?_,?_,by show es.length<_;omega⟩
 ·intro d hd
  unfold Sn.leaves at hd
  obtain⟨e,-,rfl⟩:=List.mem_map.1 hd
  exact Yt n h2 _
 ·show (Hm.root n (Sn.map n es)).length=32
  unfold Hm.root;split;exact Dg.sum_length n _ h2;exact Hm.node_len n h2 _ _ _
attribute [-go_sem] Instr.build Instr.buildSlice in
theorem UM (n:Nat)(h2:n≤32)(es:List Ent)(A:Option Addr)(m c:Nat)(L:List (List Value))(w:World)(hm:es.length=m)(hA:Rd w A L.flatten)(hE:QK w L es)(hn:m<65536)(hb:∀ e∈es,e.key.length<1048576∧e.val.length<1048576):
 Calls Tryz.prog 37 #[.int .i64 n,.slice A m c] w fun e w'=>e= .returned (.agg (Qd (Sn.root n es)).toArray)∧Below w.heap.size w w':=by
 have hok:=Sn.root_ok2 n h2 es (by omega)
 have hrl:=XG hok
 have hro:=Jf (Sn.root n es)
 obtain⟨X,hX⟩:∃ X,X=Mt.log n (Sn.leaves n es):=⟨_,rfl⟩
 obtain⟨Y,hY⟩:∃ Y,Y=Hm.root n (Sn.map n es):=⟨_,rfl⟩
 have hXl:X.length=32:=by rw[hX];exact hok.1
 have hYl:Y.length=32:=by rw[hY];exact hok.2.1
 have hr:Qd (Sn.root n es)=Qd ⟨m,X,Y⟩:=by unfold Sn.root;rw[hX,hY,hm]
 rw[hr] at hrl hro ⊢
 have hbr:=JZ m X Y hXl hYl
 obtain⟨R,hR⟩:∃ R,R=Qd ⟨m,X,Y⟩:=⟨_,rfl⟩
 rw[← hR] at hrl hro hbr ⊢
 have hlv:(Sn.leaves n es).length=m:=by unfold Sn.leaves;rw[List.length_map,hm]
 have hl32:∀ d∈Sn.leaves n es,d.length=32:=by
  intro d hd
  unfold Sn.leaves at hd
  obtain⟨e,-,rfl⟩:=List.mem_map.1 hd
  exact Yt n h2 _
 have hmsz:=Sn.map_mem n (fun k v=>k.length<1048576∧v.length<1048576) es hb
 have hpr:=Vf _ hmsz
 have hml:=Sn.map_len n es
 have hz0:=Blk.new w 42 (.int .u64 0 :: List.replicate 64 (.int .u8 0))
 have HB:=hid (Qa hz0 (Qb w (.cells (.int .u64 0 :: List.replicate 64 (.int .u8 0)).toArray 42)))
 have HA:=hid (Qa hA (Qa hE (Qa hb (Qa hX (Qa hY (Qa hlv (Qa hl32 (Qa hmsz (Qa (show QS (Sn.map n es)<274877906944 by omega) (show (Sn.map n es).length≤m by omega))))))))))
 clear hA hE hb hX hY hlv hl32 hmsz hpr hml hok hr hR hz0 hm
 go_enter Tryz.func37,Tryz.ntmps37
 go_upto_region 1 with fail
 refine Qe (fun w'=>Blk w' w.heap.size 42 (.int .u64 0 :: List.replicate 64 (.int .u8 0))∧Below w.heap.size w w') HB.out ?_
 rintro w0 ⟨hz,hbl⟩
 have HZ:=hid (Qa hz hbl)
 clear hz hbl
 go_wp2_with (first
  |(go_at_call 63
    refine (Qci n h2 A4 k4 c4 (Sn.map n es) w4 H4.out.2 (Sn.map_srt n es) (by have h3:=H4.out.2.1;have h5:=HA.out.2.2.2.2.2.2.2.2.2;omega) HA.out.2.2.2.2.2.2.2.2.1 HA.out.2.2.2.2.2.2.2.1).mono ?_
    rintro e w5 ⟨rfl,hb5⟩
    rw[← HA.out.2.2.2.2.1]
    have ht:=(HZ.out.1.grown (gro H4.out.1 hb5)).there 0 65 (by simp)
    have H5:=hid (gro HZ.out.2 (gro H4.out.1 hb5))
    clear hb5)
  |(go_at_call 64
    refine (WX n h2 es A m c L w3 (by rw[← HA.out.2.2.2.2.2.1];unfold Sn.leaves;rw[List.length_map]) (HA.out.1.grown (gro HZ.out.2 H3.out)) (HA.out.2.1.grown (gro HZ.out.2 H3.out)) hn HA.out.2.2.1).mono ?_
    rintro e w4 ⟨A4,k4,c4,rfl,hb4,hi4⟩
    have H4:=hid (Qa (gro H3.out hb4) hi4)
    clear hb4 hi4)
  |(go_at_call 61
    refine (Qd8 n h2 m (Sn.leaves n es) HA.out.2.2.2.2.2.1 A2 m c2 w2 HA.out.2.2.2.2.2.1 HA.out.2.2.2.2.2.2.1 H2.out.2.1 H2.out.2.2 (by omega)).mono ?_
    rintro e w3 ⟨rfl,hb3⟩
    rw[← HA.out.2.2.2.1]
    have H3:=hid (gro H2.out.1 hb3)
    clear hb3)
  |(go_at_call 62
    refine (UF n h2 es A m c L _ (by rw[← HA.out.2.2.2.2.2.1];unfold Sn.leaves;rw[List.length_map]) (HA.out.1.grown HZ.out.2) (HA.out.2.1.grown HZ.out.2) (by omega) HA.out.2.2.1).mono ?_
    rintro e w2 ⟨A2,c2,rfl,hb2,hr2,hc2⟩
    have H2:=hid (Qa hb2 (Qa hr2 hc2))
    clear hb2 hr2 hc2)
  |((with_reducible refine Qv 42 (.tmp 4) (.tmp 18) w.heap.size 0 R 65 hrl ht (by kernel_rfl) hro ?_ ?_ ?_ ?_ ?_);rfl;rfl;rfl;rfl))
 exact QD w.heap.size 0 R 65 _ hrl (World.rangeAt_setCells_same _ _ _ _ (by rw[hrl];exact ht)) Tryz.underlying42 rfl (by kernel_rfl) rfl rfl rfl ⟨rfl,Qc _ (Nat.le_refl _) _ _ _ H5.out⟩
theorem Qcj {w:World}{L:List (List Value)}{es:List Ent}(h:QK w L es)(k:Nat):QK w (L.take k) (es.take k):=by
 refine⟨by rw[List.length_take,List.length_take,h.len],fun i x p h1 h2=>?_⟩
 rw[List.getElem?_take] at h1 h2
 split at h1
 ·rename_i hh;rw[if_pos hh] at h2;exact h.at_ i x p h1 h2
 ·cases h1
theorem JE {P:Program}{t e:TypeId}{n:Nat}(ht:P.underlying t=some (.array n e))(he:P.underlying e=some (.int .u8))(hs:(P.info? e).map (·.size)=some 1)(xs:List UInt8)(hx:xs.length=n)(d:Nat)(w:World):
 (Op.equalIn (d+1+1) t (.agg (xs.map b8).toArray) (.agg (xs.map b8).toArray)).run P w= .ok true w:=by
 have hl:=Vo he d w xs xs n hx hx n 0 (by omega) rfl
 rw[Op.equalIn]
 simp only[Sem.run_bind,run_underlying ht,Result.andThen_ok,QN hs,Std.Legacy.Range.forIn_eq_forIn_range',Std.Legacy.Range.size]
 simp only[Nat.sub_zero,Nat.add_one_sub_one,Nat.div_one]
 rw[hl]
 simp
theorem UN {P:Program}{t:TypeId}{n:Nat}{e:TypeId}(ht:P.underlying t=some (.array n e))(k:Nat)(hs:(P.info? t).map (·.size)=some k)(a b c:List Value)(hb:b.length=k)(w:World):
 (part t (a++(b++c)).toArray a.length).run P w= .ok (.agg b.toArray) w:=by
 have ha:(isAgg t).run P w= .ok true w:=by
  unfold isAgg
  rw[Sem.run_bind,run_underlying ht w]
  rfl
 unfold part
 simp only[Sem.run_bind,ha,Result.andThen_ok,if_true,QN hs,Sem.run_pure]
 congr 2
 simp[hb]
theorem KT (r:Rt)(h:Je r)(w:World):(Op.equalIn 10000 42 (.agg (Qd r).toArray) (.agg (Qd r).toArray)).run Tryz.prog w= .ok true w:=by
 rw[show (10000:Nat)=9997+1+1+1 from rfl,run_equalIn_struct w _ _ _ _ (by kernel_rfl) (by kernel_rfl)]
 have hm:((Tryz.prog.fieldsOf 42).toList.map fun f=>(f.name == "_",f.type,f.offset))=[(false,38,0),(false,40,1),(false,40,33)]:=by kernel_rfl
 generalize (Tryz.prog.fieldsOf 42).toList=fs at hm ⊢
 have hlen:=congrArg List.length hm
 rcases fs with _|⟨f0,_|⟨f1,_|⟨f2,_|⟨f3,fr⟩⟩⟩⟩
 ·simp at hlen
 ·simp at hlen
 ·simp at hlen
 rotate_left
 ·simp at hlen
 simp only[List.map_cons,List.map_nil,List.cons.injEq,Prod.mk.injEq,beq_eq_false_iff_ne,and_true] at hm
 obtain⟨⟨n0,t0,o0⟩,⟨n1,t1,o1⟩,⟨n2,t2,o2⟩⟩:=hm
 have hl:(r.log.map b8).length=32:=by simp[h.1]
 have hml:(r.map.map b8).length=32:=by simp[h.2.1]
 have p0:∀ w,(part 38 (Qd r).toArray 0).run Tryz.prog w= .ok (.int .u64 r.size) w:=fun w=>JN Tryz.underlying38 rfl _ _ _ (by simp[Qd]) w
 have p1:∀ w,(part 40 (Qd r).toArray 1).run Tryz.prog w= .ok (.agg (r.log.map b8).toArray) w:=fun w=>UN Tryz.underlying40 32 (by kernel_rfl) [.int .u64 r.size] (r.log.map b8) (r.map.map b8) hl w
 have p2:∀ w,(part 40 (Qd r).toArray 33).run Tryz.prog w= .ok (.agg (r.map.map b8).toArray) w:=fun w=>by
  have:=UN (P:=Tryz.prog) Tryz.underlying40 32 (by kernel_rfl) (.int .u64 r.size :: r.log.map b8) (r.map.map b8) [] hml w
  rw[List.append_nil] at this
  rw[show (Value.int .u64 r.size :: r.log.map b8).length=33 from by simp[h.1]] at this
  exact this
 have q0:∀ w,(Op.equalIn (9997+1+1) 38 (.int .u64 r.size) (.int .u64 r.size)).run Tryz.prog w= .ok true w:=fun w=>by
  rw[run_equalIn_int w _ _ _ .u64 _ _ Tryz.underlying38];simp
 have q1:∀ w,(Op.equalIn (9997+1+1) 40 (.agg (r.log.map b8).toArray) (.agg (r.log.map b8).toArray)).run Tryz.prog w= .ok true w:=fun w=>JE Tryz.underlying40 Tryz.underlying5 (by kernel_rfl) r.log h.1 9997 w
 have q2:∀ w,(Op.equalIn (9997+1+1) 40 (.agg (r.map.map b8).toArray) (.agg (r.map.map b8).toArray)).run Tryz.prog w= .ok true w:=fun w=>JE Tryz.underlying40 Tryz.underlying5 (by kernel_rfl) r.map h.2.1 9997 w
 unfold Op.eqFields Op.eqFields Op.eqFields Op.eqFields
 simp only[n0,n1,n2,t0,t1,t2,o0,o1,o2,ne_eq,not_false_eq_true,if_true,Sem.run_bind,p0,p1,p2,q0,q1,q2,Result.andThen_ok,Bool.not_true,Bool.false_eq_true,if_false,Sem.run_pure]
theorem VN (r:Rt)(h:Je r)(w:World):(binOp .eql 42 (.agg (Qd r).toArray) (.agg (Qd r).toArray)).run Tryz.prog w= .ok (.bool true) w:=by
 rw[run_eql_struct,KT r h];rfl
theorem J6 (r:Rt)(h:Je r)(w:World):(binOp .neq 42 (.agg (Qd r).toArray) (.agg (Qd r).toArray)).run Tryz.prog w= .ok (.bool false) w:=by
 rw[run_neq_struct,KT r h];rfl
def Yw (w:World)(x:List Value)(F:Nat)(b:List Ent):Prop:=∃ A c L,x=[.int .u64 F,.slice A b.length c]∧Rd w A L.flatten∧QK w L b
theorem Yw.grown {w w':World}{x:List Value}{F:Nat}{b:List Ent}(h:Yw w x F b)(hb:Below w.heap.size w w'):Yw w' x F b:=by
 obtain⟨A,c,L,e,h1,h2⟩:=h
 exact⟨A,c,L,e,h1.grown hb,h2.grown hb⟩
structure XA (w:World) (X:List (List Value)) (Fs:List Nat) (bs:List (List Ent)):Prop where
 len:X.length=bs.length
 lenF:Fs.length=bs.length
 at_:∀ (i:Nat) (x:List Value) (F:Nat) (b:List Ent),X[i]?=some x→Fs[i]?=some F→bs[i]?=some b→Yw w x F b
theorem Yw.two {w:World}{x:List Value}{F:Nat}{b:List Ent}(h:Yw w x F b):x.length=2:=by
 obtain⟨A,c,L,rfl,_⟩:=h;rfl
theorem XA.all2 [Inhabited LoT]{w:World}{X:List (List Value)}{Fs:List Nat}{bs:List (List Ent)}(h:XA w X Fs bs):∀ x∈X,x.length=2:=by
 intro x hx
 obtain⟨i,hi,rfl⟩:=List.getElem_of_mem hx
 have h1:=h.len;have h2:=h.lenF
 exact (h.at_ i X[i] (Fs[i]'(by omega)) (bs[i]'(by omega)) (by simp[hi]) (by simp) (by simp)).two
def Rbs (n:Nat)(bs:List (List Ent))(k:Nat):List Rt:=(List.range (k+1)).map fun i=>Sn.root n (bs.take i).flatten
theorem Xn (n:Nat)(bs:List (List Ent))(k:Nat):(Rbs n bs k).length=k+1:=by simp[Rbs]
theorem Qed (n:Nat)(bs:List (List Ent))(k:Nat):Rbs n bs (k+1)=Rbs n bs k++[Sn.root n (bs.take (k+1)).flatten]:=by
 unfold Rbs;rw[List.range_succ,List.map_append];rfl
theorem Qee (n:Nat)(bs:List (List Ent)):Rbs n bs 0=[Sn.root n []]:=by simp[Rbs]
theorem Zg {α:Type}(bs:List (List α))(j:Nat):(bs.take j).flatten.length≤bs.flatten.length:=by
 conv=>rhs;rw[← List.take_append_drop j bs,List.flatten_append,List.length_append]
 omega
theorem UO [Inhabited LoT](n:Nat)(h1:1≤n)(h2:n≤32)(bs:List (List Ent))(Fs:List Nat)(A:Option Addr)(m c:Nat)(X:List (List Value))(w:World)(hw:Qs w)(hm:bs.length=m)(hA:Rd w A X.flatten)(hX:XA w X Fs bs)(hF:∀ i,i<bs.length→Fs[i]?=some (bs.take i).flatten.length)(hck:∀ i (hi:i<bs.length),En.bchk (bs.take i).flatten.length bs[i]=0)(hn:m+2<1048576)(htot:bs.flatten.length<1048576)(hlo:Lo≤w.heap.size):
 Calls Tryz.prog 19 #[.int .i64 n,.slice A m c] w fun e w'=>∃ b S,e= .returned (.tuple #[ptr b,.int .i64 0])∧Below w.heap.size w w'∧QJ S w' n b bs.flatten (Rbs n bs m):=by
 have HA:=hid (Qa hA (Qa hX (Qa hF (Qa hck (Qa hw (Qa hm htot))))))
 have HLO:=hid hlo
 clear hA hX hF hck hw hm htot hlo
 go_enter Tryz.func19,Tryz.ntmps19
 go_wp2_with (go_at_call 38
              refine (Qat n h1 h2 w HA.out.2.2.2.2.1 HLO.out).mono ?_
              rintro e w1 ⟨b1,rfl,hb1,hs1⟩
              have H1:=hid (Qa hb1 hs1)
              clear hb1 hs1)
 go_loopg [6,7,17] m (fun g s6 s7 i wr=>∃ j b S:Nat,j+g=m∧s6=ptr b∧s7= .int .i64 0∧i= .int .i64 j∧QJ S wr n b (bs.take j).flatten (Rbs n bs j)∧Below w.heap.size w wr)
 case atStart=>exact⟨0,b1,_,by omega,rfl,rfl,rfl,by rw[Qee];exact H1.out.2,H1.out.1⟩
 case round=>
  clear H1
  obtain⟨j,b,S,hj,rfl,rfl,rfl,hs,hbl⟩:=hrel
  have HR:=hid (Qa hs hbl)
  clear hs hbl
  by_cases hlt:j<m
  ·have hjb:j<bs.length:=by rw[HA.out.2.2.2.2.2.1];exact hlt
   have hl1:=HA.out.2.1.len
   have hl2:=HA.out.2.1.lenF
   have hjX:j<X.length:=by omega
   obtain⟨g,o,rfl,hr⟩:=HA.out.1 (by
    intro e
    have:=Qk 2 _ HA.out.2.1.all2
    rw[e] at this
    simp at this;omega)
   have hp:=Qt hr HA.out.2.1.all2 j hjX
   obtain⟨A1,c1,L1,hx,hr1,he1⟩:=HA.out.2.1.at_ j X[j] (bs.take j).flatten.length bs[j] (by simp[hjX]) (HA.out.2.2.1 j hjb) (by simp[hjb])
   rw[hx] at hp
   have hlb:=Qo hp (by simp)
   have hp2:=Qh hp HR.out.2 hlb
   have hnx:(bs.take (j+1)).flatten=(bs.take j).flatten++bs[j]:=by rw[List.take_succ_eq_append_getElem hjb,List.flatten_append];simp
   have hrs:=Qed n bs j
   have htl:=Zg bs (j+1)
   rw[hnx,List.length_append] at htl
   have happ:=Va S b n h1 h2 (bs.take j).flatten bs[j] (Rbs n bs j) A1 c1 L1
   have hck:=HA.out.2.2.2.1 j hjb
   obtain⟨F,hFe⟩:∃ F,F=(bs.take j).flatten.length:=⟨_,rfl⟩
   obtain⟨M,hM⟩:∃ M,M=bs[j].length:=⟨_,rfl⟩
   rw[← hFe,←hM] at hp2
   have hcall:∀ w',Below w.heap.size w w'→QJ S w' n b (bs.take j).flatten (Rbs n bs j)→Calls Tryz.prog 40 #[ptr b,.agg #[.int .u64 F,.slice A1 M c1]] w' fun e w''=>∃ b',e= .returned (.tuple #[ptr b',.int .i64 0])∧Below w'.heap.size w' w''∧QJ w'.heap.size w'' n b' ((bs.take j).flatten++bs[j]) (Rbs n bs j++[Sn.root n ((bs.take j).flatten++bs[j])]):=fun w' hb hs=>by
    rw[hFe,hM]
    exact happ w' (HA.out.2.2.2.2.1.below hb) hs (hr1.grown hb) (he1.grown hb) (by have:=HA.out.2.2.2.2.2.2;omega) (by rw[Xn];omega) hck
   rw[← hnx] at hcall
   have hoc:∀ v∈[Value.int .u64 F,.slice A1 M c1],v.oneCell'=true:=fun v hv=>by
    simp only[List.mem_cons,List.not_mem_nil,or_false] at hv
    rcases hv with rfl|rfl<;>rfl
   have hp9:=(Blk.new wr 47 [.int .u64 F,.slice A1 M c1]).whole
   have HC:=hid (Qa hcall (Qa hrs (Qb wr (.cells [Value.int .u64 F,.slice A1 M c1].toArray 47))))
   clear hcall hrs hnx htl happ hck hr hr1 he1 hx hp hlb hFe hM hl1 hl2
   go_wp2_with (first
    |((with_reducible refine Qf 47 (.tmp 19) g (o+j*2) _ 2 _ rfl hp2 Tryz.underlying47 rfl (by kernel_rfl) ?_ ?_ ?_ ?_);rfl;rfl;rfl)
    |((with_reducible refine Qw 47 (.tmp 9) (.tmp 20) _ _ [.int .u64 F,.slice A1 M c1] 2 rfl ?_ (by kernel_rfl) hoc ?_ ?_ ?_ ?_ ?_);rfl;rfl;rfl;rfl;rfl)
    |((with_reducible refine Qf 47 (.tmp 9) wr.heap.size 0 _ 2 _ rfl hp9 Tryz.underlying47 rfl (by kernel_rfl) ?_ ?_ ?_ ?_);rfl;rfl;rfl)
    |(go_at_call 40
      refine (HC.out.1 _ (gro HR.out.2 HC.out.2.2) (HR.out.1.grown HC.out.2.2)).mono ?_
      rintro e w5 ⟨b5,rfl,hb5,hs5⟩
      have H5:=hid (Qa (gro HC.out.2.2 hb5) hs5)
      clear hb5 hs5))
   go_roundg (gk-1)
   case measure=>omega
   case rel=>exact⟨j+1,b5,_,by omega,rfl,rfl,by go_num,by rw[HC.out.2.1];exact H5.out.2,gro HR.out.2 H5.out.1⟩
  ·obtain rfl:j=m:=by omega
   have hfin:=HR.out.1
   rw[List.take_of_length_le (by rw[HA.out.2.2.2.2.2.1];exact Nat.le_refl _)] at hfin
   have HF:=hid hfin
   clear hfin
   go_wp2_with fail
   go_ret2
   exact⟨b,S,rfl,HR.out.2,HF.out⟩
end Go.Proofs.YtpnakfeafekneaaGreatDoor
