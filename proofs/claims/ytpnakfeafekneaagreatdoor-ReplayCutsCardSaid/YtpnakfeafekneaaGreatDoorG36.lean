/- Part 36 of this proof. -/
import Derived.LaidMore
import Derived.OpenShut
import Derived.Stop.Joined
import Derived.Laws.EntriesVeiled
import Derived.Test.YtpnakfeafekneaaGreatDoorG34
import Derived.Test.YtpnakfeafekneaaGreatDoorG35
set_option linter.unusedSimpArgs false
set_option linter.unusedVariables false
set_option maxHeartbeats 8000000
set_option maxRecDepth 100000
namespace Go.Proofs.YtpnakfeafekneaaGreatDoor
open Go.ChangeShapes Go.WideShapes Go.ChangeAt Go.Deep Go.RowKit
theorem own:ownKnob Tryz.prog.godebug=none:=by kernel_rfl
theorem VO:laidOutB Tryz.prog=true:=by kernel_rfl
theorem Qha:Tryz.prog.globalNamed "notary/sha.words" =some 0:=by kernel_rfl
theorem Qhb:(Tryz.prog.globals[(0:Nat)]?).map (·.type)=some 245:=by kernel_rfl
def UQ:List (String×DataW Unit):=[("notary/sha.words",Rows.laid_notary_sha_words)]
theorem Qej {H:Type}:(Rows.laid_notary_sha_words:DataW H)= .agg (Sha.kList.map fun k=> .lit (.int .u32 (n32 k))):=by kernel_rfl
theorem Qge {W:World}(h:laidMetH Tryz.prog UQ W):Qs W:=by
 rw[MakeChecks.laidMetH_plain _ _ _ (by kernel_rfl)] at h
 obtain⟨ps,⟨g0,t0,cs0,f0,p0,q0,hg0,ht0,hv0,hd0,_,_⟩,_,_⟩:=h
 obtain rfl:=Option.some.inj (Qha.symm.trans hg0)
 obtain rfl:=Option.some.inj (Qhb.symm.trans ht0)
 obtain⟨xs,m1,rfl,hx1,hlen,hn3,hel⟩:=DataW.trod_array Tryz.underlying245 hd0
 simp only[Prod.mk.injEq] at hx1
 obtain⟨hx1,-⟩:=hx1
 rw[Qej] at hx1
 injection hx1 with hx1
 have c1:Tryz.prog.cellsOf 198=1:=by kernel_rfl
 have c64:Tryz.prog.cellsOf 245=64:=by kernel_rfl
 rw[c64] at hlen
 have key:∀ i,i<64→W.cell? ⟨0,i,none⟩=some (b32 (Sha.K i)):=by
  intro i hi
  have hE:=hel i hi
  rw[c1,Nat.mul_one] at hE
  have hil:i<cs0.toList.length:=by omega
  rw[List.drop_eq_getElem_cons hil,List.take_succ_cons,List.take_zero] at hE
  have hxi:xs[i]?=some (xs[i]'(by omega)):=by simp
  rw[hxi] at hE
  obtain⟨z,hz,hy,-⟩:=DataW.trod_int Tryz.underlying198 hE
  have hd:(Sha.kList.map fun k=>(DataW.lit (.int .u32 (n32 k)):DataW Unit))[i]?=some (DataW.lit (.int .u32 (n32 (Sha.K i)))):=by
   have hl:i<Sha.kList.length:=hi
   simp[Sha.K,hl]
  rw[hx1,List.getElem?_map,hxi,Option.map_some,hy] at hd
  simp only[Option.some.injEq,DataW.lit.injEq,Lit.int.injEq,true_and] at hd
  have hc:=World.var?_cell hg0 hv0 i
  rw[hc]
  have hci:cs0[i]?=some (.int .u32 z):=by
   simp only[List.cons.injEq,and_true] at hz
   rw[← hz]
   simp
  rw[hci,hd]
 exact⟨key,World.block_lt_of_cell? W _ (key 0 (by decide))⟩
theorem Qhc (es:List Ent)(A:Option Addr)(c:Nat)(L:List (List Value))(w:World)(hA:Rd w A L.flatten)(hE:QK w L es)(hn:es.length<1048576)(hb:∀ e∈es,e.key.length≤140737488355328∧e.val.length≤140737488355328):
 Calls Tryz.prog 10 #[.slice A es.length c] w fun e w'=>∃ Ar cr L',e= .returned (.slice Ar es.length cr)∧Below w.heap.size w w'∧w'.ownsRow w.heap.size 36 3 (.slice Ar es.length cr) es.length L'.flatten∧QZ w' L' es:=by
 have HA:=hid (Qa hA (Qa hE hb))
 clear hA hE hb
 go_enter Tryz.func10,Tryz.ntmps10
 go_wp2_with fail
 go_loopg [3,8] es.length (fun g s3 i wr=>∃ (j:Nat) (Ar:Option Addr) (cr:Nat) (L':List (List Value)),j+g=es.length∧i= .int .i64 j∧s3= .slice Ar j cr∧wr.ownsRow w.heap.size 36 3 (.slice Ar j cr) j L'.flatten∧QZ wr L' (es.take j)∧Below w.heap.size w wr)
 case atStart=>exact⟨0,none,0,[],by omega,rfl,rfl,World.ownsRow_nil _ _ _ _,⟨rfl,fun i x p h=>by simp at h⟩,Below.refl _ _⟩
 case round=>
  obtain⟨j,Ar,cr,L',hj,rfl,rfl,ho,he,hbl⟩:=hrel
  have HR:=hid (Qa ho (Qa he hbl))
  clear ho he hbl
  by_cases hlt:j<es.length
  ·obtain⟨kind,key,val,hjj⟩:∃ kind key val,es[j]?=some ⟨kind,key,val⟩:=⟨es[j].kind,es[j].key,es[j].val,by simp[hlt]⟩
   have hsub:es.take (j+1)=es.take j++[⟨kind,key,val⟩]:=by rw[List.take_succ_eq_append_getElem hlt,(List.getElem?_eq_some_iff.1 hjj).2]
   have hL:=HA.out.2.1.len
   have hjl:j<L.length:=by omega
   obtain⟨g,o,rfl,hr⟩:=HA.out.1 (by
    intro e
    have:=Qk 3 _ HA.out.2.1.three
    rw[e] at this
    simp at this;omega)
   have hp:=Qt hr HA.out.2.1.three j hjl
   have hbk:=HA.out.2.2 _ (List.mem_of_getElem? hjj)
   obtain⟨A1,c1',A2,c2',hx,hr1,hr2,hc1,hc2⟩:=HA.out.2.1.at_ j L[j] ⟨kind,key,val⟩ (by simp[hjl]) hjj
   rw[hx] at hp
   simp only[] at hp
   have hlb:=Qo hp (by simp)
   have hp2:=Qh hp HR.out.2.2 hlb
   have hea:Xu w [b8 kind,.slice A1 key.length c1',.slice A2 val.length c2'] ⟨kind,key,val⟩:=⟨A1,c1',A2,c2',rfl,hr1,hr2,hc1,hc2⟩
   have hoc:∀ v∈[b8 kind,.slice A1 key.length c1',.slice A2 val.length c2'],v.oneCell'=true:=fun v hv=>by
    simp only[List.mem_cons,List.not_mem_nil,or_false] at hv
    rcases hv with rfl|rfl|rfl<;>rfl
   have hp9:=(Blk.new wr 36 [b8 kind,.slice A1 key.length c1',.slice A2 val.length c2']).whole
   have HB:=hid (Qb wr (.cells [b8 kind,.slice A1 key.length c1',.slice A2 val.length c2'].toArray 36))
   have HX:=hid (Qa hsub (Qa hea hbk))
   have h63:j+1≤maxLen:=by simp only[maxLen];omega
   have hby:(j+1)*56≤140737488355328:=by omega
   clear hr hr1 hr2 hx hp hc1 hc2 hL hlb hsub hea hbk
   go_wp2_with (first
    |((with_reducible refine Qf 36 (.tmp 10) g (o+j*3) _ 3 _ rfl hp2 Tryz.underlying36 rfl (by kernel_rfl) ?_ ?_ ?_ ?_);rfl;rfl;rfl)
    |((with_reducible refine Qw 36 (.tmp 5) (.tmp 11) _ _ [b8 kind,.slice A1 key.length c1',.slice A2 val.length c2'] 3 rfl ?_ (by kernel_rfl) hoc ?_ ?_ ?_ ?_ ?_);rfl;rfl;rfl;rfl;rfl)
    |((with_reducible refine Qf 36 (.tmp 5) wr.heap.size 0 _ 3 _ rfl hp9 Tryz.underlying36 rfl (by kernel_rfl) ?_ ?_ ?_ ?_);rfl;rfl;rfl)
    |(go_at_call 41
      refine (Qb6 _ ⟨kind,key,val⟩ _ (HX.out.2.1.grown (gro HR.out.2.2 HB.out)) HX.out.2.2.1 HX.out.2.2.2).mono ?_
      rintro e w7 ⟨y,rfl,hb7,hy⟩
      have hyl:∀ x∈[y],x.length=3:=(fun x hx=>by rw[List.mem_singleton] at hx;subst hx;exact hy.len)
      have hyl2:[y].flatten.length=1*3:=(by simpa using hy.len)
      have hyo:∀ v∈[y].flatten,v.oneCell'=true:=(fun v hv=>hy.oc v (by simpa using hv))
      have hb8:=gro (gro HB.out hb7) (Qb w7 (.cells [y].flatten.toArray 36))
      have own8:=Qg HR.out.1 hb8
      have hr8:=Rd.of _ (Blk.new w7 36 [y].flatten).whole
      have hbs8:=(gro HR.out.2.2 hb8).size
      have H8:=hid (Qa hb8 (Qa own8 (Qa hr8 (hy.stay (QQ.of_grown (Qb w7 (.cells [y].flatten.toArray 36)))))))
      clear hb7 hy hb8 own8 hr8)
    |((with_reducible refine QY 22 36 1 #[(0,.tmp 14)] [y] 3 (by decide) hyl rfl (by decide) (by decide) Tryz.underlying22 (by kernel_rfl) ?_ ?_ ?_ ?_);rfl;rfl;rfl)
    |((with_reducible refine Q1 (.tmp 12) (.tmp 15) 22 Tryz.underlying22 ZP rfl (by decide) H8.out.2.1 1 1 hyl2 H8.out.2.2.1 hyo h63 hby hbs8 ?_ ?_ ?_ ?_ ?_);rfl;rfl;rfl;rfl
      intro v9 w9 hn1 hn2 hn3 hn4
      obtain⟨A9,c9,rfl,hr9,hc9⟩:=QC hn1
      have p9:=(But.append H8.out.2.1 hn2).pure (by decide)
      have hb9:=QB H8.out.2.1 (gro HR.out.2.2 H8.out.1) hbs8 hn2
      have he9:=((HR.out.2.1.grown H8.out.1).append (QZ.one H8.out.2.2.2)).stay p9
      have H9:=hid (Qa hn1 (Qa he9 hb9))
      clear hn1 hn2 hn3 hn4 hr9 hc9 p9 hb9 he9))
   go_roundg (gk-1)
   case measure=>omega
   case rel=>
    refine⟨j+1,A9,c9,L'++[y],by omega,by go_num,rfl,?_,?_,H9.out.2.2⟩
    ·rw[List.flatten_append];exact H9.out.1
    ·rw[HX.out.1];exact H9.out.2.1
  ·obtain rfl:j=es.length:=by omega
   have hel:=HR.out.2.1
   rw[List.take_length] at hel
   have HE9:=hid hel
   have HO9:=hid HR.out.1
   clear hel
   go_wp2_with fail
   go_ret
   exact⟨Ar,cr,L',rfl,HR.out.2.2,HO9.out,HE9.out⟩
def En.good (es:List Ent):List Ent:=es.filter fun e=>decide (En.check e=0)
theorem En.good_take (es:List Ent)(j:Nat)(hj:j<es.length):En.good (es.take (j+1))=if En.check es[j]=0 then En.good (es.take j)++[es[j]] else En.good (es.take j):=by
 unfold En.good
 rw[List.take_succ_eq_append_getElem hj,List.filter_append]
 by_cases h:En.check es[j]=0
 ·simp[h]
 ·simp[h]
theorem En.good_le (es:List Ent):(En.good es).length≤es.length:=List.length_filter_le _ _
theorem UR {w:World}{L1 L2:List (List Value)}{m1 m2:List Ent}(h1:QK w L1 m1)(h2:QK w L2 m2):QK w (L1++L2) (m1++m2):=by
 refine⟨by simp[h1.len,h2.len],fun i x p hx hp=>?_⟩
 have hl:=h1.len
 by_cases hi:i<L1.length
 ·rw[List.getElem?_append_left hi] at hx
  rw[List.getElem?_append_left (by omega)] at hp
  exact h1.at_ i x p hx hp
 ·rw[List.getElem?_append_right (by omega)] at hx
  rw[List.getElem?_append_right (by omega)] at hp
  exact h2.at_ _ x p hx (by rw[hl];exact hp)
theorem US (es:List Ent)(A:Option Addr)(m c:Nat)(L:List (List Value))(w:World)(hm:es.length=m)(hA:Rd w A L.flatten)(hE:QK w L es)(hn:m<1048576):
 Calls Tryz.prog 13 #[.slice A m c] w fun e w'=>∃ Ar k cr L',e= .returned (.slice Ar k cr)∧Below w.heap.size w w'∧(En.good es).length=k∧k≤cr∧Rd w' Ar L'.flatten∧QK w L' (En.good es):=by
 have HA:=hid (Qa hA (Qa hE hm))
 clear hA hE hm
 go_enter Tryz.func13,Tryz.ntmps13
 go_wp2_with fail
 go_loopg [3,8] m (fun g s3 i wr=>∃ (j:Nat) (Ar:Option Addr) (k cr:Nat) (L':List (List Value)),j+g=m∧k≤j∧i= .int .i64 j∧s3= .slice Ar k cr∧wr.ownsRow w.heap.size 36 3 (.slice Ar k cr) k L'.flatten∧QK w L' (En.good (es.take j))∧(En.good (es.take j)).length=k∧Below w.heap.size w wr)
 case atStart=>exact⟨0,none,0,0,[],by omega,Nat.le_refl _,rfl,rfl,World.ownsRow_nil _ _ _ _,⟨rfl,fun i x p h=>by simp at h⟩,rfl,Below.refl _ _⟩
 case round=>
  obtain⟨j,Ar,k,cr,L',hj,hkj,rfl,rfl,ho,he,hkl,hbl⟩:=hrel
  have HR:=hid (Qa ho (Qa he (Qa hbl hkl)))
  clear ho he hbl hkl
  by_cases hlt:j<m
  ·have hje:j<es.length:=by have:=HA.out.2.2;omega
   have hgt:=En.good_take es j hje
   obtain⟨kind,key,val,hjj⟩:∃ kind key val,es[j]?=some ⟨kind,key,val⟩:=⟨es[j].kind,es[j].key,es[j].val,by simp[hje]⟩
   rw[(List.getElem?_eq_some_iff.1 hjj).2] at hgt
   have hL:=HA.out.2.1.len
   have hjl:j<L.length:=by omega
   obtain⟨g,o,rfl,hr⟩:=HA.out.1 (by
    intro e
    have:=Qk 3 _ HA.out.2.1.three
    rw[e] at this
    simp at this;omega)
   have hp:=Qt hr HA.out.2.1.three j hjl
   have hat:=HA.out.2.1.at_ j L[j] ⟨kind,key,val⟩ (by simp[hjl]) hjj
   obtain⟨A1,c1',A2,c2',hx,hr1,hr2,hc1,hc2⟩:=hat
   rw[hx] at hp
   simp only[] at hp
   have hlb:=Qo hp (by simp)
   have hp2:=Qh hp HR.out.2.2.1 hlb
   have hea:Xu w [b8 kind,.slice A1 key.length c1',.slice A2 val.length c2'] ⟨kind,key,val⟩:=⟨A1,c1',A2,c2',rfl,hr1,hr2,hc1,hc2⟩
   obtain⟨y,hy⟩:∃ y,y=[b8 kind,.slice A1 key.length c1',.slice A2 val.length c2']:=⟨_,rfl⟩
   have hoc:∀ v∈y,v.oneCell'=true:=fun v hv=>by
    rw[hy] at hv
    simp only[List.mem_cons,List.not_mem_nil,or_false] at hv
    rcases hv with rfl|rfl|rfl<;>rfl
   have hyl:y.length=3:=by rw[hy];rfl
   have hcc:∀ w',Calls Tryz.prog 43 #[.agg y.toArray] w' fun e w''=>e= .returned (.int .i64 (En.check ⟨kind,key,val⟩))∧Below w'.heap.size w' w'':=fun w'=>by rw[hy];exact Wm kind A1 A2 key.length c1' val.length c2' w'
   rw[← hy] at hp2 hea
   obtain⟨z,hz⟩:∃ z,z=En.check ⟨kind,key,val⟩:=⟨_,rfl⟩
   rw[← hz] at hcc hgt
   have hp9:=(Blk.new wr 36 y).whole
   have hb1:=Qb wr (.cells y.toArray 36)
   have hsl:∀ x∈[y],x.length=3:=fun x hx=>by rw[List.mem_singleton] at hx;subst hx;exact hyl
   have hsl2:[y].flatten.length=1*3:=by simp[hyl]
   have hso:∀ v∈[y].flatten,v.oneCell'=true:=fun v hv=>hoc v (by simpa using hv)
   have h63:k+1≤maxLen:=by simp only[maxLen];omega
   have hby:(k+1)*56≤140737488355328:=by omega
   have HX:=hid (Qa hea (Qa hcc (Qa hgt (Qa hb1 hp9))))
   clear hr hr1 hr2 hx hp hc1 hc2 hL hlb hea hcc hgt hb1 hy hz
   by_cases hz0:z=0
   ·subst hz0
    go_wp2_with (first
     |((with_reducible refine Qf 36 (.tmp 10) g (o+j*3) y 3 _ hyl hp2 Tryz.underlying36 rfl (by kernel_rfl) ?_ ?_ ?_ ?_);rfl;rfl;rfl)
     |((with_reducible refine Qw 36 (.tmp 5) (.tmp 11) _ _ y 3 hyl ?_ (by kernel_rfl) hoc ?_ ?_ ?_ ?_ ?_);rfl;rfl;rfl;rfl;rfl)
     |(go_at_call 43
       refine (HX.out.2.1 _).mono ?_
       rintro e7 w7 ⟨rfl,hb7⟩
       have hp7:=Qm HX.out.2.2.2.2 hb7
       have hb8:=gro (gro HX.out.2.2.2.1 hb7) (Qb w7 (.cells [y].flatten.toArray 36))
       have own8:=Qg HR.out.1 hb8
       have hr8:=Rd.of _ (Blk.new w7 36 [y].flatten).whole
       have hbs8:=(gro HR.out.2.2.1 hb8).size
       have H8:=hid (Qa hb8 (Qa own8 hr8))
       clear hb7 hb8 own8 hr8)
     |((with_reducible refine Qf 36 (.tmp 5) wr.heap.size 0 y 3 _ hyl hp7 Tryz.underlying36 rfl (by kernel_rfl) ?_ ?_ ?_ ?_);rfl;rfl;rfl)
     |((with_reducible refine Qf 36 (.tmp 5) wr.heap.size 0 y 3 _ hyl hp9 Tryz.underlying36 rfl (by kernel_rfl) ?_ ?_ ?_ ?_);rfl;rfl;rfl)
     |((with_reducible refine QY 22 36 1 #[(0,.tmp 16)] [y] 3 (by decide) hsl rfl (by decide) (by decide) Tryz.underlying22 (by kernel_rfl) ?_ ?_ ?_ ?_);rfl;rfl;rfl)
     |((with_reducible refine Q1 (.tmp 15) (.tmp 17) 22 Tryz.underlying22 ZP rfl (by decide) H8.out.2.1 1 1 hsl2 H8.out.2.2 hso h63 hby hbs8 ?_ ?_ ?_ ?_ ?_);rfl;rfl;rfl;rfl
       intro v9 w9 hn1 hn2 hn3 hn4
       obtain⟨A9,c9,rfl,hr9,hc9⟩:=QC hn1
       have H9:=hid (Qa hn1 (QB H8.out.2.1 (gro HR.out.2.2.1 H8.out.1) hbs8 hn2))
       clear hn1 hn2 hn3 hn4 hr9 hc9))
    go_roundg (gk-1)
    case measure=>omega
    case rel=>
     have hg:=HX.out.2.2.1
     simp only[if_true] at hg
     exact⟨j+1,A9,k+1,c9,L'++[y],by omega,by omega,by go_num,rfl,by rw[List.flatten_append];exact H9.out.1,by rw[hg];exact UR HR.out.2.1 (Yx HX.out.1),by rw[hg,List.length_append,HR.out.2.2.2];rfl,H9.out.2⟩
   ·have hzi:¬(z:Int)=0:=by omega
    go_wp2_with (first
     |((with_reducible refine Qf 36 (.tmp 10) g (o+j*3) y 3 _ hyl hp2 Tryz.underlying36 rfl (by kernel_rfl) ?_ ?_ ?_ ?_);rfl;rfl;rfl)
     |((with_reducible refine Qw 36 (.tmp 5) (.tmp 11) _ _ y 3 hyl ?_ (by kernel_rfl) hoc ?_ ?_ ?_ ?_ ?_);rfl;rfl;rfl;rfl;rfl)
     |((with_reducible refine Qf 36 (.tmp 5) wr.heap.size 0 y 3 _ hyl hp9 Tryz.underlying36 rfl (by kernel_rfl) ?_ ?_ ?_ ?_);rfl;rfl;rfl)
     |(go_at_call 43
       refine (HX.out.2.1 _).mono ?_
       rintro e7 w7 ⟨rfl,hb7⟩
       have H7:=hid (gro HX.out.2.2.2.1 hb7)
       clear hb7))
    go_roundg (gk-1)
    case measure=>omega
    case rel=>
     have hg:=HX.out.2.2.1
     rw[if_neg hz0] at hg
     exact⟨j+1,Ar,k,cr,L',by omega,by omega,by go_num,rfl,Qg HR.out.1 H7.out,by rw[hg];exact HR.out.2.1,by rw[hg];exact HR.out.2.2.2,gro HR.out.2.2.1 H7.out⟩
  ·obtain rfl:j=m:=by omega
   have hel:=HR.out.2.1
   have hkl:=HR.out.2.2.2
   rw[List.take_of_length_le (by have:=HA.out.2.2;omega)] at hel hkl
   obtain⟨hr9,hc9⟩:=QU HR.out.1
   have HE9:=hid (Qa hr9 (Qa hel (Qa hkl hc9)))
   clear hr9 hel hkl hc9
   go_wp2_with fail
   go_ret
   exact⟨Ar,k,cr,L',rfl,HR.out.2.2.1,HE9.out.2.2.1,HE9.out.2.2.2,HE9.out.1,HE9.out.2.1⟩
def Bl.err (Fs:List Nat)(bs:List (List Ent))(i:Nat):Nat:=if En.bchk (Fs.getD i 0) (bs.getD i [])≠0 then En.bchk (Fs.getD i 0) (bs.getD i []) else if Fs.getD i 0≠(bs.take i).flatten.length then 3 else 0
theorem UT:(Tryz.prog.info? 38).map (fun i=>(i.zero,i.size,i.bytes))=some (some (.int .u64 0),1,8):=by kernel_rfl
theorem Bl.at_ (Fs:List Nat)(bs:List (List Ent))(j:Nat)(hj:j<bs.length)(hF:j<Fs.length):Bl.err Fs bs j=if En.bchk Fs[j] bs[j]≠0 then En.bchk Fs[j] bs[j] else if Fs[j]≠(bs.take j).flatten.length then 3 else 0:=by
 unfold Bl.err
 rw[show Fs.getD j 0=Fs[j] from by simp[hF],show bs.getD j []=bs[j] from by simp[hj]]
def Jx (rs:List Rt):List Value:=rs.map fun r=> .int .u64 (r.size:Nat)
theorem Qcl (rs:List Rt)(j:Nat)(hj:j<rs.length):Jx (rs.take (j+1))=Jx (rs.take j)++[.int .u64 (rs[j].size:Nat)]:=by
 unfold Jx
 rw[List.take_succ_eq_append_getElem hj,List.map_append]
 rfl
theorem UU [Inhabited LoT](S b n:Nat)(es:List Ent)(rs:List Rt)(k:Nat)(w:World)(hs:QJ S w n b es rs)(hk:rs.length=k)(hn:k<1048576):
 Calls Tryz.prog 31 #[ptr b] w fun e w'=>∃ As cs,e= .returned (.slice As k cs)∧Below w.heap.size w w'∧w'.ownsRow w.heap.size 38 1 (.slice As k cs) k (Jx rs):=by
 obtain⟨tb,mb,Ae,ce,Le,Ap,cp,hb,-,-,-,⟨hp1,hp2,-⟩,-,hok⟩:=hs
 have q3:w.cell? ⟨b,3,none⟩=some (.slice Ap rs.length cp):=by rw[hb.cell];rfl
 rw[hk] at q3
 have HA:=hid (Qa hp1 (Qa hok hk))
 clear hb hp1 hp2 hok hk
 go_enter Tryz.func31,Tryz.ntmps31
 go_wp2_with fail
 go_loopg [3,14] k (fun g s3 i wr=>∃ (j:Nat) (As:Option Addr) (cs:Nat),j+g=k∧i= .int .i64 j∧s3= .slice As j cs∧wr.ownsRow w.heap.size 38 1 (.slice As j cs) j (Jx (rs.take j))∧Below w.heap.size w wr)
 case atStart=>exact⟨0,none,0,by omega,rfl,rfl,World.ownsRow_nil _ _ _ _,Below.refl _ _⟩
 case round=>
  obtain⟨j,As,cs,hj,rfl,rfl,hos,hbl⟩:=hrel
  have HR:=hid (Qa hos hbl)
  clear hos hbl
  by_cases hlt:j<k
  ·have hjr:j<rs.length:=by rw[HA.out.2.2];exact hlt
   have h65:=Xk HA.out.2.1
   have hjl:j< (QI rs).length:=by unfold QI;rw[List.length_map];exact hjr
   obtain⟨g,o,rfl,hr⟩:=HA.out.1 (by
    intro e
    have:=Qk 65 _ h65
    rw[e] at this
    simp at this;omega)
   have hp:=Qt hr h65 j hjl
   have hej:(QI rs)[j]=Qd rs[j]:=by simp[QI]
   rw[hej] at hp
   have hrk:=HA.out.2.1 rs[j] (List.getElem_mem hjr)
   have hrl:=XG hrk
   have hoc:=Jf rs[j]
   have htk:=Qcl rs j hjr
   obtain⟨T,hT⟩:∃ T,T=rs[j].size:=⟨_,rfl⟩
   rw[← hT] at htk
   have h0:(Qd rs[j])[0]?=some (.int .u64 T):=by rw[hT];rfl
   obtain⟨R,hR⟩:∃ R,R=Qd rs[j]:=⟨_,rfl⟩
   rw[← hR] at hp hrl hoc h0
   have hp2:=Qh hp HR.out.2 (Qo hp (by omega))
   have k9:(wr.alloc (.cells R.toArray 42)).cell? ⟨wr.heap.size,0,none⟩=some (.int .u64 T):=by rw[(Blk.new wr 42 R).cell];exact h0
   have hou:∀ u∈[Value.int .u64 T],u.oneCell'=true:=fun u hu=>by rw[List.mem_singleton] at hu;rw[hu];rfl
   have hb1:=Qb wr (.cells R.toArray 42)
   have hb2:=gro hb1 (Qb (wr.alloc (.cells R.toArray 42)) (.cells [Value.int .u64 T].toArray 38))
   have own8:=Qg HR.out.1 hb2
   have hr8:=Rd.of _ (Blk.new (wr.alloc (.cells R.toArray 42)) 38 [.int .u64 T]).whole
   have hbs8:=(gro HR.out.2 hb2).size
   have h63:j+1≤maxLen:=by simp only[maxLen];omega
   have hby:(j+1)*8≤140737488355328:=by omega
   rw[show (wr.alloc (.cells R.toArray 42)).heap.size=wr.heap.size+1 by simp] at hr8
   have H8:=hid (Qa own8 (Qa hr8 (Qa hb2 htk)))
   clear hr hp hej hR hT htk hb1 hb2 own8 hr8 h0 hrk h65
   go_wp2_with (first
    |((with_reducible refine Qf 42 (.tmp 16) g (o+j*65) R 65 _ hrl hp2 Tryz.underlying42 rfl (by kernel_rfl) ?_ ?_ ?_ ?_);rfl;rfl;rfl)
    |((with_reducible refine Qw 42 (.tmp 5) (.tmp 17) _ _ R 65 hrl ?_ (by kernel_rfl) hoc ?_ ?_ ?_ ?_ ?_);rfl;rfl;rfl;rfl;rfl)
    |((with_reducible refine Q1 (.tmp 18) (.tmp 21) 52 Tryz.underlying52 UT rfl (by decide) H8.out.1 1 1 rfl H8.out.2.1 hou h63 hby hbs8 ?_ ?_ ?_ ?_ ?_);rfl;rfl;rfl;rfl
      intro v9 w9 hn1 hn2 hn3 hn4
      obtain⟨A9,c9,rfl,hr9,hc9⟩:=QC hn1
      have H9:=hid (Qa hn1 (QB H8.out.1 (gro HR.out.2 H8.out.2.2.1) hbs8 hn2))
      clear hn1 hn2 hn3 hn4 hr9 hc9))
   go_roundg (gk-1)
   case measure=>omega
   case rel=>exact⟨j+1,A9,c9,by omega,by go_num,rfl,by rw[H8.out.2.2.2];exact H9.out.1,H9.out.2⟩
  ·obtain rfl:j=k:=by omega
   have hos:=HR.out.1
   rw[List.take_of_length_le (by rw[HA.out.2.2];exact Nat.le_refl _)] at hos
   have HO:=hid hos
   clear hos
   go_wp2_with fail
   go_ret
   exact⟨As,cs,rfl,HR.out.2,HO.out⟩
abbrev VP (B:Nat):Value:= .func (Fn.func 56) #[] #[ptr B]
theorem KE (r:Rt)(h:Je r)(B v:Nat)(q:Bool)(hq:q=decide (r.size=v))(w:World)(hB:w.cell? ⟨B,0,none⟩=some (.int .u64 v)):
 Calls Tryz.prog 56 #[.agg (Qd r).toArray,ptr B] w fun e w'=>e= .returned (.bool q)∧Below w.heap.size w w':=by
 have hrl:=XG h
 have h0:(Qd r)[0]?=some (.int .u64 (r.size:Nat)):=rfl
 obtain⟨T,hT⟩:∃ T,T=r.size:=⟨_,rfl⟩
 rw[← hT] at h0 hq
 obtain⟨R,hR⟩:∃ R,R=Qd r:=⟨_,rfl⟩
 rw[← hR] at hrl h0 ⊢
 have k0:(w.alloc (.cells R.toArray 42)).cell? ⟨w.heap.size,0,none⟩=some (.int .u64 T):=by rw[(Blk.new w 42 R).cell];exact h0
 have hbb:=Qb w (.cells R.toArray 42)
 have kB:(w.alloc (.cells R.toArray 42)).cell? ⟨B,0,none⟩=some (.int .u64 v):=by rw[hbb.cell (p:=⟨B,0,none⟩) (World.block_lt_of_cell? w _ hB)];exact hB
 have HB:=hid (Qa hbb hq)
 clear hT hR h hq hbb hB
 go_enter Tryz.func56,Tryz.ntmps56
 go_wp2_with fail
 go_ret
 refine⟨?_,HB.out.1⟩
 rw[HB.out.2]
 have:((T:Int) == (v:Int))=decide (T=v):=by
  by_cases h:T=v
  ·subst h;simp
  ·rw[decide_eq_false h,beq_eq_false_iff_ne];omega
 first|rfl|(rw [← this];rfl)|(simp)
theorem UV [Inhabited LoT](rs:List Rt)(hok:∀ r∈rs,Je r)(m:Nat)(hm:rs.length=m)(hm20:m<1048576)(A:Option Addr)(c:Nat)(B v k:Nat)(hk:k<m)(hno:∀ i (hi:i<rs.length),i<k→rs[i].size≠v)(hyes:∀ (hi:k<rs.length),rs[k].size=v)(w:World)(hA:Rd w A (QI rs).flatten)(hB:w.cell? ⟨B,0,none⟩=some (.int .u64 v)):
 Calls Tryz.prog 55 #[.slice A m c,VP B] w fun e w'=>e= .returned (.int .i64 k)∧Below w.heap.size w w':=by
 have HA:=hid (Qa hA (Qa hok (Qa hm (Qa hno (Qa hyes hB)))))
 clear hA hok hm hno hyes hB
 go_enter Tryz.func55,Tryz.ntmps55
 go_wp2_with fail
 go_loopg [8] m (fun g i wr=>∃ j:Nat,j+g=m∧j≤k∧i= .int .i64 j∧Below w.heap.size w wr)
 case atStart=>exact⟨0,by omega,Nat.zero_le _,rfl,Below.refl _ _⟩
 case round=>
  obtain⟨j,hj,hjk,rfl,hbl⟩:=hrel
  have HR:=hid hbl
  have hlt:j<m:=by omega
  have hjr:j<rs.length:=by rw[HA.out.2.2.1];exact hlt
  have h65:=Xk HA.out.2.1
  have hjl:j< (QI rs).length:=by unfold QI;rw[List.length_map];exact hjr
  obtain⟨g,o,rfl,hr⟩:=HA.out.1 (by
   intro e
   have:=Qk 65 _ h65
   rw[e] at this
   simp at this;omega)
  have hp:=Qt hr h65 j hjl
  have hej:(QI rs)[j]=Qd rs[j]:=by simp[QI]
  rw[hej] at hp
  have hrk:=HA.out.2.1 rs[j] (List.getElem_mem hjr)
  have hrl:=XG hrk
  have kB:wr.cell? ⟨B,0,none⟩=some (.int .u64 v):=by rw[hbl.cell (p:=⟨B,0,none⟩) (World.block_lt_of_cell? w _ HA.out.2.2.2.2.2)];exact HA.out.2.2.2.2.2
  obtain⟨r,hrr⟩:∃ r,r=rs[j]:=⟨_,rfl⟩
  have hy:j=k→true=decide (r.size=v):=fun e=>by subst e;rw[hrr];exact (decide_eq_true (HA.out.2.2.2.2.1 hjr)).symm
  have hz:j<k→false=decide (r.size=v):=fun e=>by rw[hrr];exact (decide_eq_false (HA.out.2.2.2.1 j hjr e)).symm
  rw[← hrr] at hrk hrl hp
  have hc1:=fun e:j=k=>KE r hrk B v true (hy e) wr kB
  have hc2:=fun e:j<k=>KE r hrk B v false (hz e) wr kB
  obtain⟨R,hR⟩:∃ R,R=Qd r:=⟨_,rfl⟩
  rw[← hR] at hp hrl hc1 hc2
  have hp2:=Qh hp HR.out (Qo hp (by omega))
  have HC:=hid (Qa hc1 hc2)
  clear hbl hy hz hc1 hc2 hr hp hej hR hrk kB h65 hrr
  by_cases he:j=k
  ·have hcc:=HC.out.1 he
   have HX:=hid (Qa he hcc)
   clear he hcc
   go_wp2_with (first
    |((with_reducible refine Qf 42 (.tmp 14) g (o+j*65) R 65 _ hrl hp2 Tryz.underlying42 rfl (by kernel_rfl) ?_ ?_ ?_ ?_);rfl;rfl;rfl)
    |(go_at_call 56
      refine HX.out.2.mono ?_
      rintro e w5 ⟨rfl,hb5⟩
      have H5:=hid hb5
      clear hb5))
   go_ret
   exact⟨by rw[← HX.out.1];rfl,gro HR.out H5.out⟩
  ·have hjk2:j<k:=by omega
   have hcc:=HC.out.2 hjk2
   have HX:=hid hcc
   clear he hcc
   go_wp2_with (first
    |((with_reducible refine Qf 42 (.tmp 14) g (o+j*65) R 65 _ hrl hp2 Tryz.underlying42 rfl (by kernel_rfl) ?_ ?_ ?_ ?_);rfl;rfl;rfl)
    |(go_at_call 56
      refine HX.out.mono ?_
      rintro e w5 ⟨rfl,hb5⟩
      have H5:=hid hb5
      clear hb5))
   go_roundg (gk-1)
   case measure=>omega
   case rel=>exact⟨j+1,by omega,by omega,by go_num,gro HR.out H5.out⟩
def Pre (n:Nat)(es:List Ent)(rs:List Rt):Prop:=∀ r∈rs,r=Sn.root n (es.take r.size)∧r.size≤es.length
theorem Qcm {α:Type}(bs:List (List α))(i:Nat):bs.flatten.take (bs.take i).flatten.length=(bs.take i).flatten:=by
 conv=>lhs;rw[show bs.flatten=(bs.take i).flatten++(bs.drop i).flatten from by rw[← List.flatten_append,List.take_append_drop]]
 rw[List.take_left']
 rfl
theorem Qa3 [Inhabited LoT](n:Nat)(bs:List (List Ent))(k:Nat):Pre n bs.flatten (Rbs n bs k):=by
 intro r hr
 unfold Rbs at hr
 obtain⟨i,-,rfl⟩:=List.mem_map.1 hr
 refine⟨?_,Zg bs i⟩
 show Sn.root n (bs.take i).flatten=Sn.root n (bs.flatten.take (bs.take i).flatten.length)
 rw[Qcm]
theorem WY (rs:List Rt)(v:Nat)(h:∃ r∈rs,r.size=v):∃ k,∃ hk:k<rs.length,rs[k].size=v∧∀ i (hi:i<rs.length),i<k→rs[i].size≠v:=by
 obtain⟨r,hr,hrv⟩:=h
 have hlt:rs.findIdx (fun r=>decide (r.size=v))<rs.length:=List.findIdx_lt_length_of_exists ⟨r,hr,by simp[hrv]⟩
 refine⟨rs.findIdx (fun r=>decide (r.size=v)),hlt,?_,fun i hi hik=>?_⟩
 ·have:=List.findIdx_getElem (w:=hlt)
  simpa using this
 ·have:=List.not_of_lt_findIdx hik
  simpa using this
theorem Qcn [Inhabited LoT](S b n:Nat)(es:List Ent)(rs:List Rt)(m v:Nat)(w:World)(hs:QJ S w n b es rs)(hpre:Pre n es rs)(hm:rs.length=m)(hm20:m<1048576)(hel:es.length<1048576)(hv:∃ r∈rs,r.size=v):
 Calls Tryz.prog 32 #[ptr b,.int .u64 v] w fun e w'=>e= .returned (.tuple #[.agg (Qd (Sn.root n (es.take v))).toArray,.int .i64 0])∧Below w.heap.size w w':=by
 obtain⟨tb,mb,Ae,ce,Le,Ap,cp,hb,-,-,-,⟨hp1,hp2,-⟩,hlast,hok⟩:=hs
 obtain⟨k,hk,hyes,hno⟩:=WY rs v hv
 have hrk:=hok rs[k] (List.getElem_mem hk)
 have hpk:=hpre rs[k] (List.getElem_mem hk)
 rw[hyes] at hpk
 have hve:v≤es.length:=hpk.2
 have hsz:∀ w',Below w.heap.size w w'→Calls Tryz.prog 47 #[ptr b] w' fun e w''=>e= .returned (.int .u64 es.length)∧Below w'.heap.size w' w'':=fun (w':World) (h:Below w.heap.size w w')=>ZM b Ap cp rs (Sn.root n es) w' (by rw[(hb.grown h).cell];rfl) (hp1.grown h) hok hlast (by omega)
 obtain⟨g,o,rfl,hr⟩:=hp1 (by
  intro e
  have:=Qk 65 _ (Xk hok)
  rw[e] at this
  simp[QI] at this;omega)
 have hix:∀ w',Below w.heap.size w w'→∀ B,w'.cell? ⟨B,0,none⟩=some (.int .u64 v)→Calls Tryz.prog 55 #[.slice (some ⟨g,o,none⟩) m cp,VP B] w' fun e w''=>e= .returned (.int .i64 k)∧Below w'.heap.size w' w'':=fun w' h B hB=>UV rs hok m hm hm20 _ cp B v k (by omega) hno (fun _=>hyes) w' (hp1.grown h) hB
 have hjl:k< (QI rs).length:=by unfold QI;rw[List.length_map];exact hk
 have hp:=Qt hr (Xk hok) k hjl
 rw[show (QI rs)[k]=Qd rs[k] by simp[QI]] at hp
 have hrl:=XG hrk
 have hoc:=Jf rs[k]
 have hrr:Qd rs[k]=Qd (Sn.root n (es.take v)):=by rw[← hpk.1]
 rw[hrr] at hp hrl hoc
 obtain⟨R,hR⟩:∃ R,R=Qd (Sn.root n (es.take v)):=⟨_,rfl⟩
 rw[← hR] at hp hrl hoc ⊢
 obtain⟨N,hN⟩:∃ N,N=es.length:=⟨_,rfl⟩
 rw[← hN] at hsz hve
 have hki:(0:Int)≤(k:Int)∧(k:Int)< (m:Int):=by omega
 have hkn:¬(k:Int)<0:=by omega
 have hvN:¬(N:Int)< (v:Int):=by omega
 have hb':Blk w b 100 [ptr tb,ptr mb,.slice Ae es.length ce,.slice (some ⟨g,o,none⟩) m cp]:=by rw[hm] at hb;exact hb
 have HA:=hid (Qa hsz (Qa hix (Qa hp (Qa hb' hoc))))
 clear hsz hix hp hb hb' hoc hr hR hrr hrk hpk hyes hno hv hok hlast hp1 hp2 hpre hN hm hve hel hk
 have hB1:=(Blk.new w 38 [.int .u64 v]).alloc (.cells (.int .u64 0 :: List.replicate 64 (b8 0)).toArray 42)
 have hB2:=Blk.new (w.alloc (.cells [Value.int .u64 v].toArray 38)) 42 (.int .u64 0 :: List.replicate 64 (b8 0))
 rw[show (w.alloc (.cells [Value.int .u64 v].toArray 38)).heap.size=w.heap.size+1 by simp] at hB2
 have HB0:=hid (Qa hB1 (Qa hB2 (gro (Qb w (.cells [Value.int .u64 v].toArray 38)) (Qb _ (.cells (.int .u64 0 :: List.replicate 64 (b8 0)).toArray 42)))))
 clear hB1 hB2
 go_enter Tryz.func32,Tryz.ntmps32
 go_upto_region 1 with fail
 refine Qe (fun w'=>Blk w' w.heap.size 38 [.int .u64 v]∧Blk w' (w.heap.size+1) 42 (.int .u64 0 :: List.replicate 64 (b8 0))∧Below w.heap.size w w') HB0.out ?_
 rintro w1 ⟨hb1,hb2,hbl⟩
 have HB:=hid (Qa hb1 (Qa hb2 hbl))
 clear hb1 hb2 hbl HB0
 go_upto_region 3 with fail
 have HS:∀ w',Below w1.heap.size w1 w'→w'.cell? ⟨w.heap.size,0,none⟩=some (.int .u64 v):=fun w' h=>by rw[(HB.out.1.grown h).cell];rfl
 have hd:Below w1.heap.size w1 w1.drew:=(Below.refl _ _).drew
 have HT:=hid (Qa HS hd)
 clear HS hd
 go_region_held3 (fun w'=>w'.cell? ⟨w.heap.size,0,none⟩=some (.int .u64 v))
  (first|exact HT.out.1 _ HT.out.2|exact HT.out.1 _ H3.out.1)
  (first
    |(go_at_call 47
      refine (HA.out.1 _ (gro HB.out.2.2 HT.out.2)).mono ?_
      rintro e w3 ⟨rfl,hb3⟩
      have H3:=hid (Qa (gro HT.out.2 hb3) True.intro)
      clear hb3))
 all_goals
  have q3:w3.cell? ⟨b,3,none⟩=some (.slice (some ⟨g,o,none⟩) m cp):=by rw[(HA.out.2.2.2.1.grown (gro HB.out.2.2 H3.out.1)).cell];rfl
  go_upto_region 8 with (
   (go_at_call 55
    refine (HA.out.2.1 _ (gro HB.out.2.2 H3.out.1) _ (HT.out.1 _ H3.out.1)).mono ?_
    rintro e w5 ⟨rfl,hb5⟩
    have H5:=hid (gro H3.out.1 hb5)
    clear hb5))
  have h15:=gro HB.out.2.2 H5.out
  have q5:w5.cell? ⟨b,3,none⟩=some (.slice (some ⟨g,o,none⟩) m cp):=by rw[(HA.out.2.2.2.1.grown h15).cell];rfl
  have hp5:=Qh HA.out.2.2.1 h15 (Qo HA.out.2.2.1 (by omega))
  have ht:=(HB.out.2.1.grown H5.out).there 0 65 (by simp)
  have hoc:=HA.out.2.2.2.2
  have H6:=hid h15
  clear h15 q3
  go_wp2_with (first
   |((with_reducible refine Qf 42 (.tmp 31) g (o+k*65) R 65 _ hrl hp5 Tryz.underlying42 rfl (by kernel_rfl) ?_ ?_ ?_ ?_);rfl;rfl;rfl)
   |((with_reducible refine Qv 42 (.tmp 4) (.tmp 32) (w.heap.size+1) 0 R 65 hrl ht (by kernel_rfl) hoc ?_ ?_ ?_ ?_ ?_);rfl;rfl;rfl;rfl))
  exact Q9 (w.heap.size+1) 0 R 65 _ hrl (World.rangeAt_setCells_same _ _ _ _ (by rw[hrl];exact ht)) Tryz.underlying42 rfl (by kernel_rfl) rfl rfl rfl ⟨rfl,Qc _ (Nat.le_succ _) _ _ _ H6.out⟩
theorem WZ [Inhabited LoT](S b n:Nat)(es:List Ent)(rs:List Rt)(i:Nat)(e:Ent)(w:World)(hs:QJ S w n b es rs)(hrl:rs.length<1048576)(hel:es.length<1048576)(hi:es[i]?=some e)(hk:e.key.length<1048576)(hv:e.val.length<1048576):
 Calls Tryz.prog 48 #[ptr b,.int .u64 i] w fun ee w'=>∃ y,ee= .returned (.tuple #[.agg y.toArray,.int .i64 0])∧Below w.heap.size w w'∧XJ w' y e:=by
 obtain⟨tb,mb,Ae,ce,Le,Ap,cp,hb,-,hm,⟨he1,he2,-⟩,⟨hp1,hp2,-⟩,hlast,hok⟩:=hs
 have HLO:=hid (show Lo≤w.heap.size from Nat.le_trans hm.lo (Nat.le_of_lt hm.node.choose_spec.1.lt))
 clear hm
 have hsz:∀ w',Below w.heap.size w w'→Calls Tryz.prog 47 #[ptr b] w' fun e w''=>e= .returned (.int .u64 es.length)∧Below w'.heap.size w' w'':=fun (w':World) (h:Below w.heap.size w w')=>ZM b Ap cp rs (Sn.root n es) w' (by rw[(hb.grown h).cell];rfl) (hp1.grown h) hok hlast (by omega)
 have hie:i<es.length:=(List.getElem?_eq_some_iff.1 hi).1
 have hil:i<Le.length:=by rw[he2.len];exact hie
 obtain⟨g,o,rfl,hr⟩:=he1 (by
  intro e
  have:=Qk 3 _ he2.ents.three
  rw[e] at this
  simp at this;omega)
 have hp:=Qt hr he2.ents.three i hil
 have het:=he2.at_ i Le[i] e (by simp[hil]) hi
 have hxl:=het.len
 obtain⟨x,hx⟩:∃ x,x=Le[i]:=⟨_,rfl⟩
 rw[← hx] at hp het hxl
 have htw:∀ w',Below w.heap.size w w'→Calls Tryz.prog 71 #[.agg x.toArray] w' fun ee w''=>∃ y,ee= .returned (.agg y.toArray)∧Below w'.heap.size w' w''∧XJ w'' y e:=fun w' h=>Y8 x e w' (het.stay (QQ.of_grown h)).at_ hk hv (Nat.le_trans HLO.out h.size)
 obtain⟨N,hN⟩:∃ N,N=es.length:=⟨_,rfl⟩
 rw[← hN] at hsz hie hb
 have hni:¬(N:Int)≤(i:Int):=by omega
 have hii:(0:Int)≤(i:Int)∧(i:Int)< (N:Int):=by omega
 have HA:=hid (Qa hsz (Qa htw (Qa hp hb)))
 clear hsz htw hp hb hx het hr hil hi hk hv hok hlast hp1 hp2 he2 hN hel hrl hie
 have HB0:=hid (Qa (Blk.new w 36 [.int .u8 0,.slice none 0 0,.slice none 0 0]) (Qb w (.cells [Value.int .u8 0,.slice none 0 0,.slice none 0 0].toArray 36)))
 go_enter Tryz.func48,Tryz.ntmps48
 go_upto_region 1 with fail
 refine Qe (fun w'=>Blk w' w.heap.size 36 [.int .u8 0,.slice none 0 0,.slice none 0 0]∧Below w.heap.size w w') HB0.out ?_
 rintro w1 ⟨hb1,hbl⟩
 have HB:=hid (Qa hb1 hbl)
 clear hb1 hbl HB0
 go_upto_region 5 with (
  (go_at_call 47
   refine (HA.out.1 _ HB.out.2).mono ?_
   rintro e w3 ⟨rfl,hb3⟩
   have H3:=hid hb3
   clear hb3))
 have h13:=gro HB.out.2 H3.out
 have q2:w3.cell? ⟨b,2,none⟩=some (.slice (some ⟨g,o,none⟩) N ce):=by rw[(HA.out.2.2.2.grown h13).cell];rfl
 have hp3:=Qh HA.out.2.2.1 h13 (Qo HA.out.2.2.1 (by omega))
 have HG:=hid h13
 clear h13
 go_wp2_with (first
  |((with_reducible refine Qf 36 (.tmp 21) g (o+i*3) x 3 _ hxl hp3 Tryz.underlying36 rfl (by kernel_rfl) ?_ ?_ ?_ ?_);rfl;rfl;rfl)
  |(go_at_call 71
    refine (HA.out.2.1 _ HG.out).mono ?_
    rintro e w5 ⟨y,rfl,hb5,hy⟩
    have hyl:=hy.len
    have hyo:=hy.oc
    have hbx:=HB.out.1.grown (gro H3.out hb5)
    have ht:=hbx.there 0 3 (Nat.le_refl _)
    have H5:=hid (Qa (gro HG.out hb5) (Qa (hy.stay (Js hbx (by decide) 0 y)) True.intro))
    clear hb5 hy hbx)
  |((with_reducible refine Qv 36 (.tmp 4) (.tmp 23) w.heap.size 0 y 3 hyl ht (by kernel_rfl) hyo ?_ ?_ ?_ ?_ ?_);rfl;rfl;rfl;rfl))
 exact Q9 w.heap.size 0 y 3 _ hyl (World.rangeAt_setCells_same _ _ _ _ (by rw[hyl];exact ht)) Tryz.underlying36 rfl (by kernel_rfl) rfl rfl rfl ⟨y,rfl,Qc _ (Nat.le_refl _) _ _ _ H5.out.1,H5.out.2.1⟩
theorem W0:(Tryz.prog.info? 47).map (fun i=>(i.zero,i.size,i.bytes))=some (some (.agg #[.int .u64 0,.slice none 0 0]),2,32):=by kernel_rfl
theorem Bl.good {Fs:List Nat}{bs:List (List Ent)}{i:Nat}(hi:i<bs.length)(hF:i<Fs.length)(h:Bl.err Fs bs i=0):Fs[i]?=some (bs.take i).flatten.length∧En.bchk (bs.take i).flatten.length bs[i]=0:=by
 rw[Bl.at_ Fs bs i hi hF] at h
 by_cases h1:En.bchk Fs[i] bs[i]=0
 ·rw[if_neg (by simp[h1])] at h
  by_cases h2:Fs[i]=(bs.take i).flatten.length
  ·exact⟨by rw[List.getElem?_eq_getElem hF,h2],by rw[← h2];exact h1⟩
  ·rw[if_pos h2] at h;cases h
 ·rw[if_pos h1] at h;exact absurd h h1
theorem Qek [Inhabited LoT](n:Nat)(h1:1≤n)(h2:n≤32)(bs:List (List Ent))(Fs:List Nat)(A:Option Addr)(m c:Nat)(X:List (List Value))(w:World)(hw:Qs w)(hm:bs.length=m)(hA:Rd w A X.flatten)(hX:XA w X Fs bs)(hgood:∀ i,i<m→Bl.err Fs bs i=0)(hn:m+2<1048576)(htot:bs.flatten.length<1048576)(hlo:Lo≤w.heap.size):
 Calls Tryz.prog 19 #[.int .i64 n,.slice A m c] w fun e w'=>∃ b S,e= .returned (.tuple #[ptr b,.int .i64 0])∧Below w.heap.size w w'∧QJ S w' n b bs.flatten (Rbs n bs m):=
 UO n h1 h2 bs Fs A m c X w hw hm hA hX (fun i hi=>(Bl.good hi (by rw[hX.lenF];exact hi) (hgood i (by omega))).1) (fun i hi=>(Bl.good hi (by rw[hX.lenF];exact hi) (hgood i (by omega))).2) hn htot hlo
namespace Mem
end Mem
end Go.Proofs.YtpnakfeafekneaaGreatDoor
