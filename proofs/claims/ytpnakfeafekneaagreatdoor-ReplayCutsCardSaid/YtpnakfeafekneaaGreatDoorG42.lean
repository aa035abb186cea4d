/- Part 42 of this proof. -/
import Derived.Test.YtpnakfeafekneaaGreatDoorG36
import Derived.Test.YtpnakfeafekneaaGreatDoorG41
set_option linter.unusedSimpArgs false
set_option linter.unusedVariables false
set_option maxHeartbeats 8000000
set_option maxRecDepth 100000
namespace Go.Proofs.YtpnakfeafekneaaGreatDoor
open Go.RowKit
theorem Qa5 (parts:List (Nat×Value)):Tryz.prog.built 114 parts=Instr.fill ((#[(0,1),(1,65),(66,65),(131,1),(132,3),(135,1),(136,1),(137,2)]:Array (Nat×Nat))[·]?) (Qp 0 Xa 0 [.int .u8 0,.slice none 0 0,.slice none 0 0] (.slice none 0 0) (.slice none 0 0) (.slice none 0 0) (.slice none 0 0)).toArray parts:=by kernel_rfl
theorem ZW (P M Q D:List Value)(o:Nat)(h:P.length=o)(hd:D.length=M.length):splice (P++(M++Q)) o D=P++(D++Q):=by
 rw[QM _ _ _ _ (by omega),show o-P.length=0 by omega,Q6 _ _ _ hd.symm]
theorem ZO:(Qd Xa).length=65:=by simp[Qd,Xa]
theorem Qe3 (a:Value):([a]++(Qd Xa++Qd Xa)).length=131:=by simp[ZO]
theorem KG (kd:UInt8)(ix:Nat)(en:List Value)(kv dv s1 s2:Value):Qp kd Xa ix en kv dv s1 s2=([b8 kd]++(Qd Xa++Qd Xa))++([.int .u64 ix]++(en++[kv,dv,s1,s2])):=by simp[Qp]
theorem KV (kd kd2:UInt8)(ix:Nat)(en:List Value)(kv dv s1 s2:Value):splice (Qp kd Xa ix en kv dv s1 s2) 0 [b8 kd2]=Qp kd2 Xa ix en kv dv s1 s2:=Q6 [b8 kd2] [b8 kd] _ rfl
theorem U2 (kd:UInt8)(r:Rt)(hr:(Qd r).length=65)(ix:Nat)(en:List Value)(kv dv s1 s2:Value):splice (Qp kd Xa ix en kv dv s1 s2) 1 (Qd r)=Qp kd r ix en kv dv s1 s2:=
 ZW [b8 kd] (Qd Xa) _ (Qd r) 1 rfl (by rw[hr,ZO])
theorem Qcx (kd:UInt8)(ix ix2:Nat)(en:List Value)(kv dv s1 s2:Value):splice (Qp kd Xa ix en kv dv s1 s2) 131 [.int .u64 ix2]=Qp kd Xa ix2 en kv dv s1 s2:=by
 rw[KG,KG]
 exact ZW _ [.int .u64 ix] _ [.int .u64 ix2] 131 (Qe3 _) rfl
theorem Qcy (kd:UInt8)(ix:Nat)(en en2:List Value)(he:en.length=3)(he2:en2.length=3)(kv dv s1 s2:Value):splice (Qp kd Xa ix en kv dv s1 s2) 132 en2=Qp kd Xa ix en2 kv dv s1 s2:=by
 rw[KG,KG,←List.append_assoc,←List.append_assoc]
 exact ZW (([b8 kd]++(Qd Xa++Qd Xa))++[.int .u64 ix]) en _ en2 132 (by simp[ZO]) (by omega)
theorem KH (kd:UInt8)(ix:Nat)(en:List Value)(he:en.length=3)(A M B D:List Value)(hd:D.length=M.length)(kv dv s1 s2 kv2 dv2 t1 t2:Value)(e1:[kv,dv,s1,s2]=A++(M++B))(e2:[kv2,dv2,t1,t2]=A++(D++B)):splice (Qp kd Xa ix en kv dv s1 s2) (135+A.length) D=Qp kd Xa ix en kv2 dv2 t1 t2:=by
 have g:∀ T:List Value,([b8 kd]++(Qd Xa++Qd Xa))++([.int .u64 ix]++(en++(A++T)))=(([b8 kd]++(Qd Xa++Qd Xa))++([.int .u64 ix]++(en++A)))++T:=fun T=>by simp only[List.append_assoc]
 rw[KG,KG,e1,e2,g,g]
 exact ZW _ M B D _ (by rw[List.length_append,Qe3,List.length_append,List.length_append,he];simp only[List.length_singleton];omega) hd
theorem VW (A1 A2 A3:Option Addr)(n1 c1 n2 c2 n3 c3:Nat):Tryz.prog.built 114 [(0,b8 2),(5,.slice A1 n1 c1),(7,.agg #[.slice A2 n2 c2,.slice A3 n3 c3])]=
 some (Qp 2 Xa 0 [.int .u8 0,.slice none 0 0,.slice none 0 0] (.slice A1 n1 c1) (.slice none 0 0) (.slice A2 n2 c2) (.slice A3 n3 c3)).toArray:=by
 have hz:∀ kd ix kv dv s1 s2,(Qp kd Xa ix [.int .u8 0,.slice none 0 0,.slice none 0 0] kv dv s1 s2).length=139:=fun _ _ _ _ _ _=>KF ZO rfl
 rw[Qa5,QE _ _ 0 _ _ 0 1 rfl [b8 2] rfl rfl (by rw[hz];decide),KV,
  QE _ _ 5 _ _ 135 1 rfl [.slice A1 n1 c1] rfl rfl (by rw[hz];decide),
  show splice (Qp 2 Xa 0 [.int .u8 0,.slice none 0 0,.slice none 0 0] (.slice none 0 0) (.slice none 0 0) (.slice none 0 0) (.slice none 0 0)) 135 [.slice A1 n1 c1]=_ from KH 2 0 _ rfl [] [.slice none 0 0] [.slice none 0 0,.slice none 0 0,.slice none 0 0] [.slice A1 n1 c1] rfl _ _ _ _ _ _ _ _ rfl rfl,
  QE _ _ 7 _ _ 137 2 rfl [.slice A2 n2 c2,.slice A3 n3 c3] rfl rfl (by rw[hz];decide),
  show splice (Qp 2 Xa 0 [.int .u8 0,.slice none 0 0,.slice none 0 0] (.slice A1 n1 c1) (.slice none 0 0) (.slice none 0 0) (.slice none 0 0)) 137 [.slice A2 n2 c2,.slice A3 n3 c3]=_ from KH 2 0 _ rfl [.slice A1 n1 c1,.slice none 0 0] [.slice none 0 0,.slice none 0 0] [] [.slice A2 n2 c2,.slice A3 n3 c3] rfl _ _ _ _ _ _ _ _ rfl rfl]
 rfl
theorem YB (ix:Nat)(en:List Value)(he:en.length=3)(A1:Option Addr)(n1 c1:Nat):Tryz.prog.built 114 [(0,b8 1),(3,.int .u64 ix),(4,.agg en.toArray),(6,.slice A1 n1 c1)]=
 some (Qp 1 Xa ix en (.slice none 0 0) (.slice A1 n1 c1) (.slice none 0 0) (.slice none 0 0)).toArray:=by
 have hz:∀ kd ix en kv dv s1 s2,en.length=3→(Qp kd Xa ix en kv dv s1 s2).length=139:=fun _ _ _ _ _ _ _ h=>KF ZO h
 rw[Qa5,QE _ _ 0 _ _ 0 1 rfl [b8 1] rfl rfl (by rw[hz _ _ _ _ _ _ _ rfl];decide),KV,
  QE _ _ 3 _ _ 131 1 rfl [.int .u64 ix] rfl rfl (by rw[hz _ _ _ _ _ _ _ rfl];decide),Qcx,
  QE _ _ 4 _ _ 132 3 rfl en rfl he (by rw[hz _ _ _ _ _ _ _ rfl];decide),Qcy _ _ _ _ rfl he,
  QE _ _ 6 _ _ 136 1 rfl [.slice A1 n1 c1] rfl rfl (by rw[hz _ _ _ _ _ _ _ he];decide),
  show splice (Qp 1 Xa ix en (.slice none 0 0) (.slice none 0 0) (.slice none 0 0) (.slice none 0 0)) 136 [.slice A1 n1 c1]=_ from KH 1 ix _ he [.slice none 0 0] [.slice none 0 0] [.slice none 0 0,.slice none 0 0] [.slice A1 n1 c1] rfl _ _ _ _ _ _ _ _ rfl rfl]
 rfl
theorem Qgt {kd:UInt8}{r:Rt}{ix:Nat}{en:List Value}{kv dv s1 s2:Value}(he:∀ v∈en,v.oneCell'=true)(h:∀ v∈[kv,dv,s1,s2],v.oneCell'=true):∀ v∈Qp kd r ix en kv dv s1 s2,v.oneCell'=true:=by
 intro v hv
 unfold Qp at hv
 rcases List.mem_append.1 hv with hv|hv
 ·rw[List.mem_singleton] at hv;subst hv;rfl
 rcases List.mem_append.1 hv with hv|hv
 ·exact Jf r v hv
 rcases List.mem_append.1 hv with hv|hv
 ·exact Jf Xa v hv
 rcases List.mem_append.1 hv with hv|hv
 ·rw[List.mem_singleton] at hv;subst hv;rfl
 rcases List.mem_append.1 hv with hv|hv
 ·exact he v hv
 ·exact h v hv
attribute [-go_sem] loadVar in
theorem KW (S b n:Nat)(h1:1≤n)(h2:n≤32)(es:List Ent)(rs:List Rt)(kd:UInt8)(ix:Nat)(en:List Value)(kv dv s1 s2:Value)(R:List UInt8)(w:World)(hs:QJ S w n b es rs)(hrs:rs.length<1048576)(hen:en.length=3)(hoc:∀ v∈Qp kd (Sn.root n es) ix en kv dv s1 s2,v.oneCell'=true)
 (henc:∀ w',Below w.heap.size w w'→Calls Tryz.prog 85 #[.int .i64 n,.agg (Qp kd (Sn.root n es) ix en kv dv s1 s2).toArray] w' fun e w''=>∃ A c,e= .returned (.tuple #[.slice A R.length c,.int .i64 0])∧Below w'.heap.size w' w''∧Rd w'' A (R.map b8)):
 Calls Tryz.prog 58 #[ptr b,.agg (Qp kd Xa ix en kv dv s1 s2).toArray] w fun e w'=>∃ A c,e= .returned (.tuple #[.slice A R.length c,.int .i64 0])∧Below w.heap.size w w'∧Rd w' A (R.map b8):=by
 have hrt:=fun (w':World) (hb:Below w.heap.size w w')=>XH w' (hs.grown hb) hrs
 have hwd:∀ w',Below w.heap.size w w'→Calls Tryz.prog 46 #[ptr b] w' fun e w''=>e= .returned (.int .i64 n)∧w'=w'':=fun w' hb=>by
  obtain⟨tb,mb,A,c,L,Ap,cp,k1,k2,-⟩:=hs.grown hb
  exact JK b tb n _ w' (by rw[k1.cell];rfl) k2
 have hf:=Sn.root_form n h1 h2 es
 have hrl:(Qd (Sn.root n es)).length=65:=by simp[Qd,hf.log.1,hf.map.1]
 have hsp:=U2 kd (Sn.root n es) hrl ix en kv dv s1 s2
 have hCl:(Qp kd (Sn.root n es) ix en kv dv s1 s2).length=139:=KF hrl hen
 have hC0:(Qp kd Xa ix en kv dv s1 s2).length=139:=KF ZO hen
 have hro:=Jf (Sn.root n es)
 obtain⟨r,hr⟩:∃ r,r=Qd (Sn.root n es):=⟨_,rfl⟩
 obtain⟨C,hC⟩:∃ C,C=Qp kd (Sn.root n es) ix en kv dv s1 s2:=⟨_,rfl⟩
 obtain⟨C0,hCC⟩:∃ C0,C0=Qp kd Xa ix en kv dv s1 s2:=⟨_,rfl⟩
 simp only[← hr] at hrt
 rw[← hr] at hrl hsp hro
 rw[← hC] at hCl hsp hoc
 rw[← hCC] at hC0 hsp
 simp only[← hC] at henc
 rw[← hCC]
 have HL:=hid hrl
 have HCL:=hid hCl
 have HB0:=hid (Qa (Blk.new w 114 C0) (Qb w (.cells C0.toArray 114)))
 have HA:=hid (Qa hrt (Qa hwd (Qa henc (Qa hsp hC0))))
 clear hrt hwd henc hsp hC0 hr hC hCC hs hf hrl
 go_enter Tryz.func58,Tryz.ntmps58
 go_upto_region 1 with fail
 refine Qe (fun w'=>Blk w' w.heap.size 114 C0∧Below w.heap.size w w') HB0.out ?_
 rintro w1 ⟨hb1,hbl1⟩
 have HB:=hid (Qa hb1 hbl1)
 clear hb1 hbl1 HB0
 go_upto_region 2 with (first
  |(go_at_call 29
    refine (HA.out.1 w1 HB.out.2).mono ?_
    rintro e w3 ⟨rfl,hb⟩
    have hb3:=HB.out.1.grown hb
    have ht:=hb3.there 1 65 (by rw[HA.out.2.2.2.2];decide)
    have H3:=hid (Qa (gro HB.out.2 hb) hb3)
    clear hb hb3)
  |((with_reducible refine Qv 42 (.tmp 8) (.tmp 7) w.heap.size 1 r 65 HL.out ht (by kernel_rfl) hro ?_ ?_ ?_ ?_ ?_);rfl;rfl;rfl;rfl))
 have hb4:=H3.out.2.setCells r 1 _ (by rw[HL.out,HA.out.2.2.2.2];decide)
 rw[HA.out.2.2.2.1] at hb4
 refine Qe (fun w'=>Blk w' w.heap.size 114 C∧Below w.heap.size w w') ⟨hb4,Qc _ (Nat.le_refl _) _ _ _ H3.out.1⟩ ?_
 rintro w4 ⟨hb4,hbl4⟩
 have hi:(Tryz.prog.info? 114).map (·.size)=some C.length:=by rw[HCL.out];kernel_rfl
 have hld:∀ w':World,w'.rangeAt w.heap.size 0 C→(loadVar 114 ⟨w.heap.size,0,none⟩).run Tryz.prog w'= .ok (.agg C.toArray) w':=fun w' h=>run_loadVar_mid w' w.heap.size 0 _ C _ h Tryz.underlying114 rfl hi
 have HS:∀ w',Below w4.heap.size w4 w'→w'.rangeAt w.heap.size 0 C:=fun w' hb=>(hb4.grown hb).whole
 have hd:Below w4.heap.size w4 w4.drew:=(Below.refl _ _).drew
 have HT:=hid (Qa HS (Qa hd hbl4))
 clear HS hd hbl4 hb4 H3 ht hi hoc
 simp only[Act.put]
 go_region_held3 (fun w'=>w'.rangeAt w.heap.size 0 C)
  (first|exact HT.out.1 _ HT.out.2.1|exact HT.out.1 _ H6.out.1)
  (first
    |(go_at_call 46
      refine (HA.out.2.1 _ (gro HT.out.2.2 HT.out.2.1)).mono ?_
      rintro e w5 ⟨rfl,rfl⟩)
    |(go_at_call 85
      refine (HA.out.2.2.1 _ (gro HT.out.2.2 HT.out.2.1)).mono ?_
      rintro e w6 ⟨A6,c6,rfl,hb6,hr6⟩
      have H6:=hid (Qa (gro HT.out.2.1 hb6) hr6)
      clear hb6 hr6))
 all_goals
  go_wp2_with fail
  go_ret2
  exact⟨A6,c6,rfl,gro HT.out.2.2 H6.out.1,H6.out.2⟩
theorem Rc.path_log (n:Nat)(ds:List (List UInt8))(i:Nat):∀ k m lo hi,lo<hi→hi-lo≤2^k→(Rc.path n ds i m lo hi).length≤k
 |0,m,lo,hi,h,h2=>by
  cases m with
  |zero=>exact Nat.le_refl _
  |succ m=>unfold Rc.path;rw[if_pos (by simp at h2;omega)];exact Nat.le_refl _
 |k+1,0,lo,hi,h,h2=>Nat.zero_le _
 |k+1,m+1,lo,hi,h,h2=>by
  unfold Rc.path
  split
  ·simp
  ·have h1:=Mt.below_pos (hi-lo)
   have h3:=Mt.below_lt (hi-lo) (by omega)
   have h4:=Mt.below_ge (hi-lo) (by omega)
   have h5:Mt.below (hi-lo)≤2^k:=by
    unfold Mt.below
    refine Nat.pow_le_pow_right (by decide) ?_
    have:(hi-lo-1).log2<k+1:=(Nat.log2_lt (by omega)).2 (by omega)
    omega
   split
   ·rw[List.length_append,List.length_singleton];have:=path_log n ds i k m lo (lo+Mt.below (hi-lo)) (by omega) (by omega);omega
   ·rw[List.length_append,List.length_singleton];have:=path_log n ds i k m (lo+Mt.below (hi-lo)) hi (by omega) (by omega);omega
structure Qe4 (w:World) (G:List UInt8×Bool) (e:Ending) (w':World):Prop where
 ex:∃ A' c',e= .returned (.tuple #[.slice A' G.1.length c',.bool G.2,.int .i64 0])∧Below w.heap.size w w'∧Rd w' A' (G.1.map b8)
theorem U3 (S b n:Nat)(h1:1≤n)(h2:n≤32)(es:List Ent)(rs:List Rt)(key:List UInt8)(Ak:Option Addr)(ck:Nat)(w:World)(hs:QJ S w n b es rs)(hw:Qs w)(hk:Rd w Ak (key.map b8))(hl:key.length≤64):
 Calls Tryz.prog 35 #[ptr b,.slice Ak key.length ck] w (Qe4 w (Hm.get n key (Sn.map n es))):=by
 obtain⟨tb,mb,A,c,L,Ap,cp,hb,-,hm,-⟩:=hs
 have hg:=Qgg mb n h1 h2 (Sn.map n es) key Ak ck w hw hm hk hl
 obtain⟨G,hG⟩:∃ G,G=Hm.get n key (Sn.map n es):=⟨_,rfl⟩
 rw[← hG] at hg ⊢
 have q1:w.cell? ⟨b,1,none⟩=some (ptr mb):=by rw[hb.cell];rfl
 have HG:=hid hg
 clear hg hG hb hm hw hk hl
 go_enter Tryz.func35,Tryz.ntmps35
 go_wp2_with (
  (go_at_call 60
   refine HG.out.mono ?_
   rintro e w2 ⟨A2,c2,rfl,hb2,hr2⟩
   have H2:=hid (Qa hb2 hr2)
   clear hb2 hr2))
 go_ret3
 exact⟨⟨A2,c2,rfl,H2.out.1,H2.out.2⟩⟩
theorem Hm.way_le (n:Nat)(d:List UInt8):∀ (f t:Nat) (m:List Pr),(Hm.way n d f t m).2.length≤m.length
 |0,t,m=>Nat.le_refl _
 |f+1,t,m=>by
  cases h:Hm.single n m with
  |true=>rw[Hm.way_single (.inr h)];exact Nat.le_refl _
  |false=>
   cases hh:Hm.has n t m (Dg.digit d t) with
   |false=>rw[Hm.way_no h hh];exact Nat.zero_le _
   |true=>
    rw[Hm.way_yes h hh]
    exact Nat.le_trans (way_le n d f (t+1) _) (List.length_filter_le _ _)
def Sn.keyB (n:Nat)(es:List Ent)(key:List UInt8):List UInt8:=Rc.kb n (Sn.root n es) key (Hm.path n (Dg.key n key) (Sn.map n es)) (Hm.way n (Dg.key n key) (2*n) 0 (Sn.map n es)).2
theorem Qcz (S b n:Nat)(h1:1≤n)(h2:n≤32)(es:List Ent)(rs:List Rt)(key:List UInt8)(Ak:Option Addr)(ck:Nat)(w:World)(hs:QJ S w n b es rs)(hrs:rs.length<1048576)(hw:Qs w)(hk:Rd w Ak (key.map b8))(hl:key.length≤64):
 Calls Tryz.prog 34 #[ptr b,.slice Ak key.length ck] w fun e w'=>∃ A c,e= .returned (.tuple #[.slice A (Sn.keyB n es key).length c,.int .i64 0])∧Below w.heap.size w w'∧Rd w' A ((Sn.keyB n es key).map b8):=by
 obtain⟨tb,mb,A,c,L,Ap,cp,hb,-,hm,-⟩:=id hs
 have hg:=U3 S b n h1 h2 es rs key Ak ck w hs hw hk hl
 have hpv:=fun (w':World) (h:Below w.heap.size w w')=>Qet mb n h1 h2 (Sn.map n es) key Ak ck w' (hw.below h) (hm.grown h) (hk.grown h) hl
 have hpf:=Hm.path_fit n h2 (Dg.key n key) (Sn.map n es)
 have hwf:=(Hm.way_fit n h2 (Dg.key n key) (2*n) 0 (Sn.map n es)).2.2
 have hwl:=Hm.way_le n (Dg.key n key) (2*n) 0 (Sn.map n es)
 have hbm:Bnd (Hm.way n (Dg.key n key) (2*n) 0 (Sn.map n es)).2:=⟨Nat.lt_of_le_of_lt hwl hm.bnd.1,fun p hp=>hm.bnd.2 p (hwf p hp)⟩
 have hrf:=Sn.root_form n h1 h2 es
 have hR:Sn.keyB n es key=Rc.kb n (Sn.root n es) key (Hm.path n (Dg.key n key) (Sn.map n es)) (Hm.way n (Dg.key n key) (2*n) 0 (Sn.map n es)).2:=rfl
 obtain⟨R,hRe⟩:∃ R,R=Sn.keyB n es key:=⟨_,rfl⟩
 rw[← hRe] at hR ⊢
 obtain⟨G,hG⟩:∃ G,G=Hm.get n key (Sn.map n es):=⟨_,rfl⟩
 rw[← hG] at hg
 have hrec:=fun (w0 w':World) (h0:Below w.heap.size w w0) (As:Option Addr) (cs:Nat) (Ap:Option Addr) (cp:Nat) (Lp:List (List Value)) (hst:J7 w0 As (Hm.path n (Dg.key n key) (Sn.map n es))) (hr:Rd w0 Ap Lp.flatten) (hp:Ql w0 Lp (Hm.way n (Dg.key n key) (2*n) 0 (Sn.map n es)).2)=>
  KW S b n h1 h2 es rs 2 0 [.int .u8 0,.slice none 0 0,.slice none 0 0] (.slice Ak key.length ck) (.slice none 0 0) (.slice As (Hm.path n (Dg.key n key) (Sn.map n es)).length cs) (.slice Ap (Hm.way n (Dg.key n key) (2*n) 0 (Sn.map n es)).2.length cp) R w0 (hs.grown h0) hrs rfl
   (Qgt (fun v hv=>by simp only[List.mem_cons,List.not_mem_nil,or_false] at hv;rcases hv with rfl|rfl|rfl<;>rfl) (fun v hv=>by simp only[List.mem_cons,List.not_mem_nil,or_false] at hv;rcases hv with rfl|rfl|rfl|rfl<;>rfl))
   (fun w2 h=>by rw[hR];exact U1 n h1 h2 (Sn.root n es) hrf key Ak ck _ As _ cs _ Ap _ cp Lp 0 _ (.slice none 0 0) w2 rfl (hk.grown (gro h0 h)) hl rfl hpf.1 rfl (hst.grown h) hpf.2 (hr.grown h) (hp.grown h) hbm)
 have hbt:=fun (A2 A3:Option Addr) (n2 c2 n3 c3:Nat)=>VW Ak A2 A3 key.length ck n2 c2 n3 c3
 have hbox:∀ w0 As cs Ap cp,Below w.heap.size w w0→Below w.heap.size w (w0.alloc (.cells [Value.slice As (Hm.path n (Dg.key n key) (Sn.map n es)).length cs,.slice Ap (Hm.way n (Dg.key n key) (2*n) 0 (Sn.map n es)).2.length cp].toArray 112)):=fun w0 As cs Ap cp h=>gro h (Qb _ _)
 clear hpf hwf hwl hbm hrf hR hRe hG hw hk
 generalize hsts:Hm.path n (Dg.key n key) (Sn.map n es)=sts at hpv hrec hbox
 generalize hway:Hm.way n (Dg.key n key) (2*n) 0 (Sn.map n es)=W at hpv hrec hbox
 obtain⟨t,ht⟩:∃ t,t=sts.length:=⟨_,rfl⟩
 obtain⟨kp,hkp⟩:∃ kp,kp=W.2.length:=⟨_,rfl⟩
 obtain⟨kl,hkl⟩:∃ kl,kl=key.length:=⟨_,rfl⟩
 have hpv2:∀ w',Below w.heap.size w w'→Calls Tryz.prog 59 #[ptr mb,.slice Ak kl ck] w' fun e w''=>∃ As cs Ap cp Lp,e= .returned (.tuple #[.agg #[.slice As t cs,.slice Ap kp cp],.int .i64 0])∧Below w'.heap.size w' w''∧J7 w'' As sts∧Rd w'' Ap Lp.flatten∧Ql w'' Lp W.2:=fun w' h=>by
  rw[hkl]
  refine (hpv w' h).mono ?_
  rintro e w'' ⟨As,cs,Ap,cp,Lp,e',q1,q2,q3,q4,-⟩
  refine⟨As,cs,Ap,cp,Lp,?_,q1,by rw[← hsts];exact q2,q3,by rw[← hway];exact q4⟩
  rw[e',ht,hkp,←hsts,←hway]
 rw[← hkl] at hg ⊢
 simp only[← ht,←hkp,←hkl] at hrec hbt
 have q1:∀ w',Below w.heap.size w w'→w'.cell? ⟨b,1,none⟩=some (ptr mb):=fun w' h=>by rw[(hb.grown h).cell];rfl
 have HA:=hid (Qa hg (Qa hpv2 (Qa q1 (Qa hrec hbt))))
 clear hpv hg hpv2 q1 hrec hbt hsts hway ht hkp hkl hbox hs hm hb hl
 go_enter Tryz.func34,Tryz.ntmps34
 go_upto_region 5 with (first
  |(go_at_call 35
    refine HA.out.1.mono ?_
    rintro e w2 ⟨A2,c2,rfl,hb2,-⟩
    have k1:=HA.out.2.2.1 w2 hb2
    have H2:=hid hb2
    clear hb2)
  |(go_at_call 59
    refine (HA.out.2.1 w2 H2.out).mono ?_
    rintro e w3 ⟨As,cs,Ap,cp,Lp,rfl,hb3,hs3,hr3,hp3⟩
    have H3:=hid (Qa (gro H2.out hb3) (Qa hs3 (Qa hr3 hp3)))
    have hoc:∀ v∈[Value.slice As t cs,.slice Ap kp cp],v.oneCell'=true:=(fun v hv=>by
     simp only[List.mem_cons,List.not_mem_nil,or_false] at hv
     rcases hv with rfl|rfl<;>rfl)
    clear hb3 hs3 hr3 hp3 k1)
  |((with_reducible refine Qw 112 (.tmp 9) (.tmp 28) _ _ [.slice As t cs,.slice Ap kp cp] 2 rfl ?_ (by kernel_rfl) hoc ?_ ?_ ?_ ?_ ?_);rfl;rfl;rfl;rfl;rfl))
 refine Qe (fun w'=>w'.rangeAt w3.heap.size 0 [.slice As t cs,.slice Ap kp cp]∧Below w3.heap.size w3 w') ⟨(Blk.new w3 _ _).whole,Qb _ _⟩ ?_
 rintro w4 ⟨hr4,hb4⟩
 have hz:=HA.out.2.2.2.2 As Ap t cs kp cp
 have hrc:=HA.out.2.2.2.1 w4 w4 (gro H3.out.1 hb4) As cs Ap cp Lp (H3.out.2.1.grown hb4) (H3.out.2.2.1.grown hb4) (H3.out.2.2.2.grown hb4)
 have H4:=hid (Qa (gro H3.out.1 hb4) (Qa hz hrc))
 clear hb4 hz hrc hoc
 go_wp2_with (first
  |((with_reducible refine Qf 112 (.tmp 9) w3.heap.size 0 [.slice As t cs,.slice Ap kp cp] 2 _ rfl hr4 Tryz.underlying112 rfl (by kernel_rfl) ?_ ?_ ?_ ?_);rfl;rfl;rfl)
  |((with_reducible refine Za 114 #[(0,.const (.int .u8 2)),(5,.tmp 31),(7,.tmp 32)] (Qp 2 Xa 0 [.int .u8 0,.slice none 0 0,.slice none 0 0] (.slice Ak kl ck) (.slice none 0 0) (.slice As t cs) (.slice Ap kp cp)) ?_ ?_ ?_ ?_);rfl;rfl;exact H4.out.2.1)
  |(go_at_call 58
    refine H4.out.2.2.mono ?_
    rintro e w5 ⟨A5,c5,rfl,hb5,hr5⟩
    have H5:=hid (Qa (gro H4.out.1 hb5) hr5)
    clear hb5 hr5))
 go_ret2
 exact⟨A5,c5,rfl,H5.out.1,H5.out.2⟩
def Sn.entB (n:Nat)(es:List Ent)(i:Nat)(x:Ent):List UInt8:=Rc.eb n (Sn.root n es) i x (Rc.path n (Sn.leaves n es) i es.length 0 es.length)
theorem U4 (S b n:Nat)(h1:1≤n)(h2:n≤32)(es:List Ent)(rs:List Rt)(i:Nat)(x:Ent)(w:World)(hs:QJ S w n b es rs)(hrs:rs.length<1048576)(hel:es.length≤200)(hw:Qs w)(hi:es[i]?=some x)(hx:En.check x=0):
 Calls Tryz.prog 33 #[ptr b,.int .u64 i] w fun e w'=>∃ A c,e= .returned (.tuple #[.slice A (Sn.entB n es i x).length c,.int .i64 0])∧Below w.heap.size w w'∧Rd w' A ((Sn.entB n es i x).map b8):=by
 have hxl:=En.lens x hx
 have hil:i<es.length:=(List.getElem?_eq_some_iff.1 hi).1
 have hse:=WZ S b n es rs i x w hs hrs (by omega) hi (by omega) (by omega)
 obtain⟨tb,mb,Ae,ce,Le,Ap,cp,hb,htr,hm,-,⟨hp1,-,-⟩,hlast,hok⟩:=id hs
 have hll:(Sn.leaves n es).length=es.length:=by simp[Sn.leaves]
 have hsz:=fun (w':World) (h:Below w.heap.size w w')=>ZM b Ap cp rs (Sn.root n es) w' (by rw[(hb.grown h).cell];rfl) (hp1.grown h) hok hlast hrs
 have hsz:∀ w',Below w.heap.size w w'→Calls Tryz.prog 47 #[ptr b] w' fun e w''=>e= .returned (.int .u64 es.length)∧Below w'.heap.size w' w'':=hsz
 have hinc:=fun (w':World) (h:Below w.heap.size w w')=>Qeq tb n es.length i h1 h2 (Sn.leaves n es) hll.symm (by omega) hil w' (htr.grown h) (hw.below h)
 have hfit:=htr.fits
 have hpl:(Rc.path n (Sn.leaves n es) i es.length 0 es.length).length≤128:=Nat.le_trans (Rc.path_log n _ i 8 _ 0 es.length (by omega) (by simp;omega)) (by decide)
 have hpf:=Rc.path_fit n h2 (Sn.leaves n es) hfit i es.length 0 es.length
 have hrf:=Sn.root_form n h1 h2 es
 have hR:Sn.entB n es i x=Rc.eb n (Sn.root n es) i x (Rc.path n (Sn.leaves n es) i es.length 0 es.length):=rfl
 obtain⟨R,hRe⟩:∃ R,R=Sn.entB n es i x:=⟨_,rfl⟩
 rw[← hRe] at hR ⊢
 obtain⟨ds,hds⟩:∃ ds,ds=Rc.path n (Sn.leaves n es) i es.length 0 es.length:=⟨_,rfl⟩
 simp only[← hds] at hinc
 rw[← hds] at hR hpl hpf
 have hrec:=fun (w0:World) (h0:Below w.heap.size w w0) (y:List Value) (hy:XJ w0 y x) (A:Option Addr) (c:Nat) (hA:Rd w0 A (dgs ds).flatten)=>
  KW S b n h1 h2 es rs 1 i y (.slice none 0 0) (.slice A ds.length c) (.slice none 0 0) (.slice none 0 0) R w0 (hs.grown h0) hrs hy.len
   (Qgt hy.oc (fun v hv=>by simp only[List.mem_cons,List.not_mem_nil,or_false] at hv;rcases hv with rfl|rfl|rfl|rfl<;>rfl))
   (fun w2 h=>by rw[hR];exact YN n h1 h2 (Sn.root n es) hrf i (by omega) y x _ _ _ ds A _ c w2 (hy.at_.grown h) hx rfl hpl (hA.grown h) hpf)
 have hbt:=fun (y:List Value) (hy:y.length=3) (A:Option Addr) (n1 c1:Nat)=>YB i y hy A n1 c1
 have q0:∀ w',Below w.heap.size w w'→w'.cell? ⟨b,0,none⟩=some (ptr tb):=fun w' h=>by rw[(hb.grown h).cell];rfl
 obtain⟨k,hk⟩:∃ k,k=ds.length:=⟨_,rfl⟩
 obtain⟨N,hN⟩:∃ N,N=es.length:=⟨_,rfl⟩
 simp only[← hk] at hrec hinc
 simp only[← hN] at hsz hinc
 have HA:=hid (Qa hse (Qa hsz (Qa hinc (Qa q0 (Qa hrec hbt)))))
 clear hse hsz hinc q0 hrec hbt hk hN hR hRe hds hpl hpf hrf hfit hll hs hb htr hm hp1 hlast hok hw hi hx hxl hil hel
 go_enter Tryz.func33,Tryz.ntmps33
 go_upto_region 4 with (first
  |(go_at_call 48
    refine HA.out.1.mono ?_
    rintro e w2 ⟨y,rfl,hb2,hy⟩
    have hyl:=hy.len
    have hyo:=hy.oc
    have H2:=hid (Qa hb2 hy)
    clear hb2 hy)
  |((with_reducible refine Qw 36 (.tmp 6) (.tmp 14) _ _ y 3 hyl ?_ (by kernel_rfl) hyo ?_ ?_ ?_ ?_ ?_);rfl;rfl;rfl;rfl;rfl))
 refine Qe (fun w'=>w'.rangeAt w2.heap.size 0 y∧Below w2.heap.size w2 w') ⟨(Blk.new w2 _ _).whole,Qb _ _⟩ ?_
 rintro w3 ⟨hr3,hb3⟩
 have h03:=gro H2.out.1 hb3
 have HS:∀ w',Below w3.heap.size w3 w'→w'.cell? ⟨b,0,none⟩=some (ptr tb):=fun w' h=>HA.out.2.2.2.1 w' (gro h03 h)
 have hd:Below w3.heap.size w3 w3.drew:=(Below.refl _ _).drew
 have H3:=hid (Qa h03 (Qa (H2.out.2.stay (QQ.of_grown hb3)) (Qa hr3 (Qa HS hd))))
 clear h03 hb3 hr3 HS hd hyl hyo
 go_region_held3 (fun w'=>w'.cell? ⟨b,0,none⟩=some (ptr tb))
  (first|exact H3.out.2.2.2.1 _ H3.out.2.2.2.2|exact H3.out.2.2.2.1 _ H5.out.1|exact H3.out.2.2.2.1 _ H4.out)
  (first
    |(go_at_call 47
      refine (HA.out.2.1 _ (gro H3.out.1 H3.out.2.2.2.2)).mono ?_
      rintro e w4 ⟨rfl,hb4⟩
      have H4:=hid (gro H3.out.2.2.2.2 hb4)
      clear hb4)
    |(go_at_call 57
      refine (HA.out.2.2.1 _ (gro H3.out.1 H4.out)).mono ?_
      rintro e w5 ⟨A5,c5,rfl,hb5,hr5,-⟩
      have H5:=hid (Qa (gro H4.out hb5) hr5)
      clear hb5 hr5))
 all_goals
  have hr5:=Qm H3.out.2.2.1 H5.out.1
  have hyl:=H2.out.2.len
  have hz:=HA.out.2.2.2.2.2 y hyl A5 k c5
  have hrc:=HA.out.2.2.2.2.1 _ (gro H3.out.1 H5.out.1) y (H3.out.2.1.stay (QQ.of_grown H5.out.1)) A5 c5 H5.out.2
  have H6:=hid (Qa (gro H3.out.1 H5.out.1) (Qa hz hrc))
  clear hz hrc
  go_wp2_with (first
   |((with_reducible refine Qf 36 (.tmp 6) w2.heap.size 0 y 3 _ hyl hr5 Tryz.underlying36 rfl (by kernel_rfl) ?_ ?_ ?_ ?_);rfl;rfl;rfl)
   |((with_reducible refine Za 114 #[(0,.const (.int .u8 1)),(3,.tmp 31),(4,.tmp 32),(6,.tmp 33)] (Qp 1 Xa i y (.slice none 0 0) (.slice A5 k c5) (.slice none 0 0) (.slice none 0 0)) ?_ ?_ ?_ ?_);rfl;rfl;exact H6.out.2.1)
   |(go_at_call 58
     refine H6.out.2.2.mono ?_
     rintro e w7 ⟨A7,c7,rfl,hb7,hr7⟩
     have H7:=hid (Qa (gro H6.out.1 hb7) hr7)
     clear hb7 hr7))
  go_ret2
  exact⟨A7,c7,rfl,H7.out.1,H7.out.2⟩
theorem Jj {v:Nat}(h:v<18446744073709551616):(Wi.uvar v).length≤10:=Wi.uvar_length 9 v (by omega)
theorem U5 (l:List UInt8)(h:l.length<1048576):(Wi.blob l).length<1048600:=by
 have u:=Jj (v:=l.length) (by omega)
 simp only[Wi.blob,List.length_append];omega
theorem Bnd.small {m:List Pr}(h:Bnd m):QS m≤419430400:=by
 have g:∀ l:List Pr,(∀ p∈l,p.key.length≤64∧p.val.length≤256)→QS l≤400*l.length:=by
  intro l
  induction l with
  |nil=>intro _;simp[QS]
  |cons p r ih=>
   intro hp
   have h1:=ih (fun q hq=>hp q (by simp[hq]))
   have h2:=hp p (by simp)
   unfold QS at h1 ⊢
   rw[List.flatMap_cons,List.length_append,List.length_append,List.length_cons]
   have u1:=Wi.uvar_length 9 p.key.length (by omega)
   have u2:=Wi.uvar_length 9 p.val.length (by omega)
   have b1:(Wi.blob p.key).length=(Wi.uvar p.key.length).length+p.key.length:=by simp[Wi.blob]
   have b2:(Wi.blob p.val).length=(Wi.uvar p.val.length).length+p.val.length:=by simp[Wi.blob]
   omega
 have h1:=g m h.2
 have h2:=h.1
 omega
theorem QJ.bnd {S b n:Nat}{es:List Ent}{rs:List Rt}{w:World}(hs:QJ S w n b es rs):Bnd (Sn.map n es):=by
 obtain⟨tb,mb,A,c,L,Ap,cp,hb,-,hm,-⟩:=hs
 exact hm.bnd
theorem Qe5 (n:Nat)(h2:n≤32)(es:List Ent)(i:Nat)(x:Ent)(hel:es.length≤200)(hi:i<es.length)(hx:En.check x=0):(Sn.entB n es i x).length<1099511627776:=by
 have hb:=En.bytes_len x hx
 have hp:(Rc.path n (Sn.leaves n es) i es.length 0 es.length).length≤128:=Nat.le_trans (Rc.path_log n _ i 8 _ 0 es.length (by omega) (by simp;omega)) (by decide)
 have hl:=J8 n (Rc.path n (Sn.leaves n es) i es.length 0 es.length)
 have hr:=Rt.bytes_len n h2 (Sn.root n es)
 have hbb:=U5 (En.bytes x) (by omega)
 have hu:=Jj (v:=i) (by omega)
 have hv:=Jj (v:=(Rc.path n (Sn.leaves n es) i es.length 0 es.length).length) (by omega)
 have hm:=Nat.mul_le_mul hp h2
 unfold Sn.entB Rc.eb
 simp only[List.length_append,List.length_nil,List.length_cons]
 omega
theorem Qe6 (n:Nat)(h1:1≤n)(h2:n≤32)(es:List Ent)(key:List UInt8)(hm:Bnd (Sn.map n es))(hl:key.length≤64):(Sn.keyB n es key).length<1099511627776:=by
 have hpf:=Hm.path_fit n h2 (Dg.key n key) (Sn.map n es)
 have hwf:=(Hm.way_fit n h2 (Dg.key n key) (2*n) 0 (Sn.map n es)).2.2
 have hwl:=Hm.way_le n (Dg.key n key) (2*n) 0 (Sn.map n es)
 have hbm:Bnd (Hm.way n (Dg.key n key) (2*n) 0 (Sn.map n es)).2:=⟨Nat.lt_of_le_of_lt hwl hm.1,fun p hp=>hm.2 p (hwf p hp)⟩
 have hs:=hbm.small
 have hst:=VV n h2 (Hm.path n (Dg.key n key) (Sn.map n es)) (fun s h=>(hpf.2 s h).2.1)
 have hr:=Rt.bytes_len n h2 (Sn.root n es)
 have hbb:=U5 key (by omega)
 have hu:=Jj (v:=(Hm.path n (Dg.key n key) (Sn.map n es)).length) (by have:=hpf.1;omega)
 have hv:=Jj (v:=(Hm.way n (Dg.key n key) (2*n) 0 (Sn.map n es)).2.length) (by have:=hbm.1;omega)
 have hp1:=hpf.1
 unfold QS at hs
 unfold Sn.keyB Rc.kb prB
 simp only[List.length_append,List.length_nil,List.length_cons]
 omega
theorem Qe7 {m:List Pr}{key:List UInt8}(hm:∀ p∈m,p.key.length≤64∧p.val.length≤256):(Hm.look m key).1.length<1099511627776:=by
 unfold Hm.look
 split
 ·cases h:m[pos m key]? with
  |none=>simp
  |some p=>have:=(hm p (List.mem_of_getElem? h)).2;show p.val.length<_;omega
 ·simp
theorem Qgl (n:Nat)(h2:n≤32)(m:List Pr)(key:List UInt8)(hm:Bnd m):(Hm.get n key m).1.length<1099511627776:=
 Qe7 fun p hp=>hm.2 p ((Hm.way_fit n h2 (Dg.key n key) (2*n) 0 m).2.2 p hp)
theorem Qab (rs:List Rt)(hok:∀ r∈rs,Je r)(m:Nat)(hm:rs.length=m)(hm20:m<1048576)(A:Option Addr)(c:Nat)(B v:Nat)(hno:∀ i (hi:i<rs.length),rs[i].size≠v)(w:World)(hA:Rd w A (QI rs).flatten)(hB:w.cell? ⟨B,0,none⟩=some (.int .u64 v)):
 Calls Tryz.prog 55 #[.slice A m c,VP B] w fun e w'=>e= .returned (.int .i64 (-1))∧Below w.heap.size w w':=by
 have HA:=hid (Qa hA (Qa hok (Qa hm (Qa hno hB))))
 clear hA hok hm hno hB
 go_enter Tryz.func55,Tryz.ntmps55
 go_wp2_with fail
 go_loopg [8] m (fun g i wr=>∃ j:Nat,j+g=m∧i= .int .i64 j∧Below w.heap.size w wr)
 case atStart=>exact⟨0,by omega,rfl,Below.refl _ _⟩
 case round=>
  obtain⟨j,hj,rfl,hbl⟩:=hrel
  have HR:=hid hbl
  by_cases hge:¬j<m
  ·obtain rfl:j=m:=by omega
   clear hbl
   go_wp2_with fail
   go_ret
   exact⟨rfl,HR.out⟩
  have hlt:j<m:=by omega
  clear hge
  have hjr:j<rs.length:=by rw[HA.out.2.2.1];exact hlt
  have h65:=Xk HA.out.2.1
  have hjl:j< (QI rs).length:=by unfold QI;rw[List.length_map];exact hjr
  obtain⟨g,o,rfl,hr⟩:=HA.out.1 (by
   intro e
   have:=Qk 65 _ h65
   rw[e] at this
   simp at this;omega)
  have hp:=Qt hr h65 j hjl
  have hej:(QI rs)[j]=Qd rs[j]:=by simp[QI]
  rw[hej] at hp
  have hrk:=HA.out.2.1 rs[j] (List.getElem_mem hjr)
  have hrl:=XG hrk
  have kB:wr.cell? ⟨B,0,none⟩=some (.int .u64 v):=by rw[hbl.cell (p:=⟨B,0,none⟩) (World.block_lt_of_cell? w _ HA.out.2.2.2.2)];exact HA.out.2.2.2.2
  obtain⟨r,hrr⟩:∃ r,r=rs[j]:=⟨_,rfl⟩
  have hz:false=decide (r.size=v):=by rw[hrr];exact (decide_eq_false (HA.out.2.2.2.1 j hjr)).symm
  rw[← hrr] at hrk hrl hp
  have hc2:=KE r hrk B v false hz wr kB
  obtain⟨R,hR⟩:∃ R,R=Qd r:=⟨_,rfl⟩
  rw[← hR] at hp hrl hc2
  have hp2:=Qh hp HR.out (Qo hp (by omega))
  have HX:=hid hc2
  clear hbl hz hc2 hr hp hej hR hrk kB h65 hrr
  go_wp2_with (first
   |((with_reducible refine Qf 42 (.tmp 14) g (o+j*65) R 65 _ hrl hp2 Tryz.underlying42 rfl (by kernel_rfl) ?_ ?_ ?_ ?_);rfl;rfl;rfl)
   |(go_at_call 56
     refine HX.out.mono ?_
     rintro e w5 ⟨rfl,hb5⟩
     have H5:=hid hb5
     clear hb5))
  go_roundg (gk-1)
  case measure=>omega
  case rel=>exact⟨j+1,by omega,by go_num,gro HR.out H5.out⟩
theorem Qe8 [Inhabited LoT](S b n:Nat)(es:List Ent)(rs:List Rt)(m v:Nat)(w:World)(hs:QJ S w n b es rs)(hm:rs.length=m)(hm20:m<1048576)(hel:es.length<1048576)(hve:v≤es.length)(hv:∀ i (hi:i<rs.length),rs[i].size≠v):
 Calls Tryz.prog 32 #[ptr b,.int .u64 v] w fun e w'=>∃ Z:List Value,e= .returned (.tuple #[.agg Z.toArray,.int .i64 5])∧Z.length=65∧(∀ u∈Z,u.oneCell'=true)∧Below w.heap.size w w':=by
 obtain⟨tb,mb,Ae,ce,Le,Ap,cp,hb,-,-,-,⟨hp1,hp2,-⟩,hlast,hok⟩:=hs
 have hsz:∀ w',Below w.heap.size w w'→Calls Tryz.prog 47 #[ptr b] w' fun e w''=>e= .returned (.int .u64 es.length)∧Below w'.heap.size w' w'':=fun (w':World) (h:Below w.heap.size w w')=>ZM b Ap cp rs (Sn.root n es) w' (by rw[(hb.grown h).cell];rfl) (hp1.grown h) hok hlast (by omega)
 have hix:∀ w',Below w.heap.size w w'→∀ B,w'.cell? ⟨B,0,none⟩=some (.int .u64 v)→Calls Tryz.prog 55 #[.slice Ap m cp,VP B] w' fun e w''=>e= .returned (.int .i64 (-1))∧Below w'.heap.size w' w'':=fun w' h B hB=>Qab rs hok m hm hm20 _ cp B v hv w' (hp1.grown h) hB
 obtain⟨N,hN⟩:∃ N,N=es.length:=⟨_,rfl⟩
 rw[← hN] at hsz hve
 have hvN:¬(N:Int)< (v:Int):=by omega
 have hb':Blk w b 100 [ptr tb,ptr mb,.slice Ae es.length ce,.slice Ap m cp]:=by rw[hm] at hb;exact hb
 have HA:=hid (Qa hsz (Qa hix hb'))
 clear hsz hix hb hb' hv hok hlast hp1 hp2 hN hm hve hel
 have hB1:=(Blk.new w 38 [.int .u64 v]).alloc (.cells (.int .u64 0 :: List.replicate 64 (b8 0)).toArray 42)
 have hB2:=Blk.new (w.alloc (.cells [Value.int .u64 v].toArray 38)) 42 (.int .u64 0 :: List.replicate 64 (b8 0))
 rw[show (w.alloc (.cells [Value.int .u64 v].toArray 38)).heap.size=w.heap.size+1 by simp] at hB2
 have HB0:=hid (Qa hB1 (Qa hB2 (gro (Qb w (.cells [Value.int .u64 v].toArray 38)) (Qb _ (.cells (.int .u64 0 :: List.replicate 64 (b8 0)).toArray 42)))))
 clear hB1 hB2
 go_enter Tryz.func32,Tryz.ntmps32
 go_upto_region 1 with fail
 refine Qe (fun w'=>Blk w' w.heap.size 38 [.int .u64 v]∧Blk w' (w.heap.size+1) 42 (.int .u64 0 :: List.replicate 64 (b8 0))∧Below w.heap.size w w') HB0.out ?_
 rintro w1 ⟨hb1,hb2,hbl⟩
 have HB:=hid (Qa hb1 (Qa hb2 hbl))
 clear hb1 hb2 hbl HB0
 go_upto_region 3 with fail
 have HS:∀ w',Below w1.heap.size w1 w'→w'.cell? ⟨w.heap.size,0,none⟩=some (.int .u64 v):=fun w' h=>by rw[(HB.out.1.grown h).cell];rfl
 have hd:Below w1.heap.size w1 w1.drew:=(Below.refl _ _).drew
 have HT:=hid (Qa HS hd)
 clear HS hd
 go_region_held3 (fun w'=>w'.cell? ⟨w.heap.size,0,none⟩=some (.int .u64 v))
  (first|exact HT.out.1 _ HT.out.2|exact HT.out.1 _ H3.out.1)
  (first
    |(go_at_call 47
      refine (HA.out.1 _ (gro HB.out.2.2 HT.out.2)).mono ?_
      rintro e w3 ⟨rfl,hb3⟩
      have H3:=hid (Qa (gro HT.out.2 hb3) True.intro)
      clear hb3))
 all_goals
  have q3:w3.cell? ⟨b,3,none⟩=some (.slice Ap m cp):=by rw[(HA.out.2.2.grown (gro HB.out.2.2 H3.out.1)).cell];rfl
  go_upto_region 7 with (
   (go_at_call 55
    refine (HA.out.2.1 _ (gro HB.out.2.2 H3.out.1) _ (HT.out.1 _ H3.out.1)).mono ?_
    rintro e w5 ⟨rfl,hb5⟩
    have H5:=hid (gro H3.out.1 hb5)
    clear hb5))
  have h15:=gro HB.out.2.2 H5.out
  have H6:=hid h15
  clear h15 q3
  obtain⟨Z,hZ,hzl,hzo⟩:∃ Z:List Value,Tryz.prog.built 42 []=some Z.toArray∧Z.length=65∧∀ u∈Z,u.oneCell'=true:=
   ⟨.int .u64 0 :: List.replicate 64 (b8 0),by kernel_rfl,by simp,fun u hu=>by
     rcases List.mem_cons.1 hu with rfl|hu
     ·rfl
     ·rw[(List.mem_replicate.1 hu).2];rfl⟩
  have ht:=(HB.out.2.1.grown H5.out).there 0 65 (by simp)
  go_wp2_with (first
   |((with_reducible refine Za 42 #[] Z ?_ ?_ ?_ ?_);rfl;rfl;exact hZ)
   |((with_reducible refine Qv 42 (.tmp 4) (.tmp 25) (w.heap.size+1) 0 Z 65 hzl ht (by kernel_rfl) hzo ?_ ?_ ?_ ?_ ?_);rfl;rfl;rfl;rfl))
  exact Q9 (w.heap.size+1) 0 Z 65 _ hzl (World.rangeAt_setCells_same _ _ _ _ (by rw[hzl];exact ht)) Tryz.underlying42 rfl (by kernel_rfl) rfl rfl rfl ⟨Z,rfl,hzl,hzo,Qc _ (Nat.le_succ _) _ _ _ H6.out⟩
end Go.Proofs.YtpnakfeafekneaaGreatDoor
