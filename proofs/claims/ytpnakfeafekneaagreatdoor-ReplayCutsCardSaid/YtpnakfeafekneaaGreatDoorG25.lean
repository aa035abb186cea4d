/- Part 25 of this proof. -/
import Derived.Deep.RegionHeld3
import Derived.Test.YtpnakfeafekneaaGreatDoorG24
set_option linter.unusedSimpArgs false
set_option linter.unusedVariables false
set_option maxHeartbeats 8000000
set_option maxRecDepth 100000
namespace Go.Proofs.YtpnakfeafekneaaGreatDoor
open Go.RowKit
theorem Xy:(Tryz.prog.info? 40).map (·.size)=some 32:=by kernel_rfl
theorem KQ {α:Type}(p q:α→Bool)(h:∀ x,p x=true→q x=false):∀ l:List α,(l.filter p).length+(l.filter q).length≤l.length
 |[]=>by simp
 |x :: l=>by
  have:=KQ p q h l
  rw[List.filter_cons,List.filter_cons]
  cases hp:p x with
  |true=>rw[if_pos rfl,if_neg (by rw[h x hp];decide)];simp;omega
  |false=>
   rw[if_neg (by decide)]
   split<;>simp<;>omega
theorem ins_len [Inhabited LoT](n:Nat)(x:Pr)(m:List Pr):(Hm.ins n x m).length≤m.length+1:=by
 have:=KQ (fun p=>decide (Hm.cmp n p x<0)) (fun p=>decide (0<Hm.cmp n p x)) (fun p h=>by simp at h ⊢;omega) m
 unfold Hm.ins
 rw[List.length_append,List.length_cons]
 omega
theorem QL.here [Inhabited LoT]{S:Nat→Prop}{w:World}{n:Nat}:∀ {f t:Nat} {v:Value} {m:List Pr},QL S w n f t v m→QL (· <w.heap.size) w n f t v m
 |0,_,_,_,h=>h
 |f+1,t,v,m,h=>by
  rcases h with h|⟨h1,b,A,c,z,val,e,h2,h3,h4,h6,h5⟩
  ·exact .inl h
  ·refine .inr ⟨h1,b,A,c,z,val,e,h2,h3,h4,⟨fun a ha=>?_,h6.2⟩,fun i hi=>QL.here (h5 i hi)⟩
   have hne:(Hm.digs n t m).map val≠[]:=by
    intro e
    have hd:Hm.digs n t m=[]:=List.map_eq_nil_iff.1 e
    cases hm:m with
    |nil=>rw[hm] at h1;simp[Hm.single] at h1
    |cons p q=>
     have:=Hm.mem_digs.2 ⟨p,(by rw[hm];simp:p∈m),(rfl:Hm.dig n t p=_)⟩
     rw[hd] at this;cases this
   obtain⟨g,o,e',hr⟩:=h3 hne
   rw[ha] at e'
   cases e'
   exact Qo hr (List.length_pos_iff.2 hne)
theorem Qf4 [Inhabited LoT](b n:Nat)(h1:1≤n)(h2:n≤32)(x:Pr)(xc:List Value)(hxs:x.key.length≤64∧x.val.length≤256)(v:Value)(m:List Pr)(w:World)(hw:Qs w)(hm:XF w b n)(hx:QO w xc x)(ht:Top w n v m)(hs:Hm.Srt n m)(hbd:Bnd m)(hml:m.length+1<1048576):
 Calls Tryz.prog 116 #[ptr b,v,.int .i64 0,dg (Dg.key n x.key),.agg xc.toArray] w fun e w'=>∃ T p,e= .returned (ifp T p)∧Below w.heap.size w w'∧QL (fun _=>True) w' n (2*n) 0 (ifp T p) (Hm.ins n x m):=by
 rcases ht with ⟨rfl,rfl⟩|ht
 ·exact (Qf2 b n h1 h2 0 x xc w hw hm hx hxs).mono fun _ _ ⟨p,e,hb,hk⟩=>⟨_,p,e,hb,by rw[Hm.ins_nil];exact hk.ht _ _⟩
 ·exact (Qf3 b n h1 h2 x xc hxs (2*n) 0 w.heap.size v m w (by omega) (Nat.le_refl _) hw hm hx ht.here hs hbd hml (fun p _ i hi=>by omega)).mono fun _ _ ⟨T,p,e,hb,hk⟩=>⟨T,p,e,hb,QL.mono (fun _ _=>trivial) hk⟩
theorem Qf5 [Inhabited LoT](b n:Nat)(h1:1≤n)(h2:n≤32)(m:List Pr)(k v:List UInt8)(A1 A2:Option Addr)(c1 c2:Nat)(w:World)(hw:Qs w)(hm:Xl w n b m)(hk:Rd w A1 (k.map b8))(hv:Rd w A2 (v.map b8))(hkl:k.length≤64)(hvl:v.length≤256)(hml:m.length+1<1048576):
 Calls Tryz.prog 73 #[ptr b,.slice A1 k.length c1,.slice A2 v.length c2] w fun e w'=>∃ b',e= .returned (.tuple #[ptr b',.int .i64 0])∧Below w.heap.size w w'∧Xl w' n b' (Hm.ins n ⟨k,v⟩ m):=by
 have hmw:=hm.w
 obtain⟨⟨top,htb,htop⟩,hsrt,hbnd,hlob⟩:=hm
 have HLO:=hid (show Lo≤w.heap.size from Nat.le_trans hlob (Nat.le_of_lt htb.lt))
 clear hlob
 have hkl1:=Dg.sum_length n (Dg.keyIn k) h2
 have hklen:(Dg.key n k).length=32:=hkl1
 have hchk:=Jq b n h1 h2 k A1 c1 w hw hmw hk hkl
 have hput:=fun w' xc (hb:Below w.heap.size w w') (hx:QO w' xc ⟨k,v⟩)=>Qf4 b n h1 h2 ⟨k,v⟩ xc ⟨hkl,hvl⟩ top m w' (hw.below hb) (hmw.grown hb) hx (htop.grown hb) hsrt hbnd hml
 generalize hK:Dg.key n k=K at hklen hchk hput
 have HK:=hid hK
 have HL:=hid (show (K.map b8).length=32 by simp[hklen])
 have HA:=hid (Qa hw (Qa htb (Qa htop (Qa hsrt (Qa hbnd (Qa hk (Qa hv hmw)))))))
 have HC:=hid (Qa hchk hput)
 have i1:¬(256:Int)< (v.length:Int):=by omega
 clear hw htb htop hsrt hbnd hk hv hmw hchk hput hK hkl1
 go_enter Tryz.func73,Tryz.ntmps73
 go_upto_region 6 with (first
  |(go_at_call 93
    refine HC.out.1.mono ?_
    rintro e w2 ⟨rfl,hb⟩
    have HV:=hid hb;clear hb)
  |((with_reducible refine Qw 40 (.tmp 8) (.tmp 14) _ _ (K.map b8) 32 HL.out ?_ (by kernel_rfl) (Qi _) ?_ ?_ ?_ ?_ ?_);rfl;rfl;rfl;rfl;rfl))
 refine Qe (fun w'=>Below w.heap.size w w'∧w'.rangeAt w2.heap.size 0 (K.map b8)) ⟨gro HV.out (Qb _ _),(Blk.new w2 _ _).whole⟩ ?_
 rintro w3 ⟨hb3,hr3⟩
 have HS:∀ w',Below w3.heap.size w3 w'→w'.cell? ⟨b,0,none⟩=some (.int .i64 n)∧w'.cell? ⟨b,1,none⟩=some top∧w'.rangeAt w2.heap.size 0 (K.map b8)∧Below w.heap.size w w':=fun w' hb=>by
  have h:=(HA.out.2.1.grown hb3).grown hb
  exact⟨by rw[h.cell];rfl,by rw[h.cell];rfl,Qm hr3 hb,gro hb3 hb⟩
 have hd:Below w3.heap.size w3 w3.drew:=(Below.refl _ _).drew
 have htw:=Y4 A1 A2 c1 c2 k v w3.drew ((HA.out.2.2.2.2.2.1.grown hb3).grown hd) ((HA.out.2.2.2.2.2.2.1.grown hb3).grown hd) (by omega) (by omega) (Nat.le_trans HLO.out (gro hb3 hd).size)
 have HT:=hid (Qa HS (Qa hd (Qa htw hb3)))
 clear HS hd htw hb3 hr3
 have hu:=Tryz.underlying40
 have hi:(Tryz.prog.info? 40).map (·.size)=some (K.map b8).length:=by rw[HL.out];exact Xy
 have hl:=HL.out
 have hone:=Qi K
 go_region_held3 (fun w'=>w'.cell? ⟨b,0,none⟩=some (.int .i64 n)∧w'.cell? ⟨b,1,none⟩=some top∧w'.rangeAt w2.heap.size 0 (K.map b8)∧Below w.heap.size w w')
  (first|exact HT.out.1 _ HT.out.2.1|exact HT.out.1 _ H7.out.1|exact HT.out.1 _ H6.out.1|exact HT.out.1 _ H5.out.1)
  (first
    |(go_at_call 117
      refine HT.out.2.2.1.mono ?_
      rintro e w5 ⟨xc,rfl,hb5,hx5⟩
      have h5:=gro HT.out.2.1 hb5
      have hp:=HC.out.2 w5 xc (gro HT.out.2.2.2 h5) hx5
      have H5:=hid (Qa h5 hp)
      clear hb5 hx5 h5 hp)
    |(go_at_call 116
      refine H5.out.2.mono ?_
      rintro e w6 ⟨T6,p6,rfl,hb6,hh6⟩
      have h6:=gro H5.out.1 hb6
      have H6:=hid (Qa h6 hh6)
      have H7:=hid (Qa (gro h6 (Qb w6 (.cells #[.int .i64 n,ifp T6 p6] 159))) True.intro)
      clear hb6 hh6 h6))
 go_wp2_with fail
 go_ret2
 have hbd:Bnd (Hm.ins n ⟨k,v⟩ m):=⟨by have:=ins_len n ⟨k,v⟩ m;omega,fun p hp=>by
  rcases Hm.mem_ins hp with rfl|hp
  ·exact⟨hkl,hvl⟩
  ·exact HA.out.2.2.2.2.1.2 p hp⟩
 exact⟨_,rfl,gro HT.out.2.2.2 H7.out.1,⟨⟨_,Blk.new w6 _ [.int .i64 n,ifp T6 p6],.inr (QL.grown (Qb _ _) H6.out.2)⟩,Hm.ins_srt HA.out.2.2.2.1,hbd,Nat.le_trans HLO.out (gro HT.out.2.2.2 H6.out.1).size⟩⟩
namespace Hm
def hasKey (k:List UInt8)(m:List Pr):Bool:=m.any fun p=>p.key == k
theorem hasKey_iff {k:List UInt8}{m:List Pr}:hasKey k m=true↔∃ p∈m,p.key=k:=by simp[hasKey]
theorem del_none [Inhabited LoT]{k:List UInt8}{m:List Pr}(h:hasKey k m=false):del k m=m:=by
 unfold del
 rw[List.filter_eq_self]
 intro p hp
 have:¬∃ p∈m,p.key=k:=by rw[← hasKey_iff,h];decide
 have hk:p.key≠k:=fun e=>this ⟨p,hp,e⟩
 simp[hk]
theorem mem_del {k:List UInt8}{m:List Pr}{p:Pr}:p∈del k m↔p∈m∧p.key≠k:=by simp[del]
end Hm
def Tp [Inhabited LoT](S:Nat→Prop)(w:World)(n f t:Nat)(v:Value)(m:List Pr):Prop:=(m=[]∧v= .nilIface)∨QL S w n f t v m
theorem Qf6 [Inhabited LoT]{n:Nat}{m:List Pr}{of key:List UInt8}(hs:Hm.Srt n m)(hof:∀ p∈m,Dg.key n p.key=of):fnd m (pos m key) key=Hm.hasKey key m:=by
 have sp:=WE (key:=key) hs hof
 rw[Bool.eq_iff_iff,ZU,Hm.hasKey_iff]
 constructor
 ·rintro⟨p,hp,e⟩;exact⟨p,List.mem_of_getElem? hp,e⟩
 ·rintro⟨p,hp,e⟩
  rw[← List.take_append_drop (pos m key) m,List.mem_append] at hp
  rcases hp with hp|hp
  ·have:=sp.lo p hp
   rw[e,Lx.cmp_self] at this
   exact absurd this (by decide)
  ·rcases Nat.lt_or_ge (pos m key) m.length with hl|hl
   ·rw[List.drop_eq_getElem_cons hl,List.mem_cons] at hp
    rcases hp with rfl|hp
    ·exact⟨_,List.getElem?_eq_getElem hl,e⟩
    ·have:=sp.up p hp
     rw[e,Lx.cmp_self] at this
     exact absurd this (by decide)
   ·rw[List.drop_eq_nil_of_le hl] at hp;cases hp
theorem Qb4 [Inhabited LoT]{n:Nat}{m:List Pr}{of key:List UInt8}(hs:Hm.Srt n m)(hof:∀ p∈m,Dg.key n p.key=of)(hf:fnd m (pos m key) key=true):Hm.del key m=m.take (pos m key)++m.drop (pos m key+1):=by
 have sp:=WE (key:=key) hs hof
 obtain⟨p,hp,hk⟩:=ZU.1 hf
 obtain⟨hl,hpe⟩:=List.getElem?_eq_some_iff.1 hp
 have e:m=m.take (pos m key)++(p :: m.drop (pos m key+1)):=by
  conv=>lhs;rw[← List.take_append_drop (pos m key) m,List.drop_eq_getElem_cons hl,hpe]
 conv=>lhs;rw[e]
 unfold Hm.del
 rw[List.filter_append,List.filter_cons,if_neg (by simp[hk]),
  List.filter_eq_self.2 (fun q hq=>by
   have h:=sp.lo q hq
   have h2:q.key≠key:=fun e=>by rw[e,Lx.cmp_self] at h;exact absurd h (by decide)
   simp[h2]),
  (List.filter_eq_self (l:=m.drop (pos m key+1))).2 (fun q hq=>by
    have h:=sp.up q hq
    have h2:q.key≠key:=fun e=>by rw[e,Lx.cmp_self] at h;exact absurd h (by decide)
    simp[h2])]
theorem Kx (w:World)(D:List UInt8):Blk (w.alloc (.cells (D.map b8).toArray 40)) w.heap.size 40 (D.map b8)∧Below w.heap.size w (w.alloc (.cells (D.map b8).toArray 40)):=⟨Blk.new w _ _,Qb _ _⟩
theorem Qdu [Inhabited LoT]{w w6:World}{b n pa po:Nat}{m m2:List Pr}{of:List UInt8}{A A6:Option Addr}{c c6 N1:Nat}{L:List (List Value)}(h1:1≤n)(h2:n≤32)(hw:Qs w)(hm:XF w b n)(ha:Zd w n pa m of A c L)(hb:Below w.heap.size w w6)(hr:Rd w6 A6 (L.flatten.take (po*2)++L.flatten.drop ((po+1)*2)))(he:m2=m.take po++m.drop (po+1))(hbd:Bnd m2)(hl:m2.length=N1):
 (Calls Tryz.prog 161 #[ptr b,dg of,.slice A6 N1 c6] w6 fun e w'=>∃ b',e= .returned (ptr b')∧Below w6.heap.size w6 w'∧Blk w' b' 164 (Xq of (.slice A6 N1 c6) (Dg.bucket n m2)))∧Rd w6 A6 (L.take po++L.drop (po+1)).flatten∧Ql w6 (L.take po++L.drop (po+1)) m2:=by
 have hpat:Ql w6 (L.take po++L.drop (po+1)) m2:=by
  rw[he]
  exact ((ha.at_.grown hb).take _).append ((ha.at_.grown hb).drop _)
 have hrd:Rd w6 A6 (L.take po++L.drop (po+1)).flatten:=by
  rw[XT 2 _ _ ha.at_.two,XU 2 _ _ ha.at_.two,←List.flatten_append] at hr
  exact hr
 have hpour:=ZK b n h1 h2 of ha.len A6 c6 _ m2 _ (hw.below hb) (hm.grown hb) hrd hpat hbd
 rw[hl] at hpour
 exact⟨hpour,hrd,hpat⟩
theorem Qas [Inhabited LoT](S:Nat→Prop)(b n:Nat)(h1:1≤n)(h2:n≤32)(f t:Nat)(v:Value)(m:List Pr)(D key:List UInt8)(hD:D.length=32)(Ak:Option Addr)(ck:Nat)(w:World)(hw:Qs w)(hm:XF w b n)(ha:Bk w n v m)(hk:Rd w Ak (key.map b8))(hs:Hm.Srt n m)(hbd:Bnd m):
 Calls Tryz.prog 118 #[ptr b,v,.int .i64 t,dg D,.slice Ak key.length ck] w fun e w'=>∃ v',e= .returned (.tuple #[v',.bool (Hm.hasKey key m)])∧Below w.heap.size w w'∧Tp S w' n f t v' (Hm.del key m):=by
 obtain⟨pa,of,A,c,L,rfl,ha⟩:=ha
 have hcf:=fun w' (hb:Below w.heap.size w w')=>K1 n A Ak c ck L m of key w' (ha.rd.grown hb) (ha.at_.grown hb) (hk.grown hb) hbd hs ha.key
 have hfh:=Qf6 (key:=key) hs ha.key
 have hsp:=WE (key:=key) hs ha.key
 have hdf:=Qb4 (key:=key) hs ha.key
 rw[hfh] at hcf hdf
 have hpl:Hm.hasKey key m=true→pos m key<m.length:=fun h=>by
  obtain⟨p,hp,_⟩:=ZU.1 (hfh.trans h);exact (List.getElem?_eq_some_iff.1 hp).1
 have hdn:=Hm.del_none (k:=key) (m:=m)
 generalize hpo:pos m key=po at hcf hdf hpl hsp
 generalize hhk:Hm.hasKey key m=q at hcf hdf hpl hdn
 have HL:=hid (show (of.map b8).length=32 by simp[ha.len])
 have HA:=hid (Qa hw (Qa hm (Qa ha (Qa hk (Qa hs (Qa hbd (Qa hcf (Qa hdf (Qa hdn hsp)))))))))
 have hml:=hbd.1
 clear hw hm ha hk hs hbd hcf hdf hdn hsp hfh hpo hhk
 have HBX:=hid (Kx w D)
 cases q with
 |false=>
  have HD0:=hid (HA.out.2.2.2.2.2.2.2.2.1 rfl)
  clear hpl
  go_enter Tryz.func118,Tryz.ntmps118
  go_upto_region 1 with fail
  refine Qe (fun w'=>Below w.heap.size w w') HBX.out.2 ?_
  rintro w1 hb1
  have k32:w1.cell? ⟨pa,32,none⟩=some (.slice A m.length c):=Xd (HA.out.2.2.1.blk.grown hb1) HA.out.2.2.1.len
  have HB:=hid hb1
  clear hb1
  go_wp2_with (
   (go_at_call 94;refine (HA.out.2.2.2.2.2.2.1 w1 HB.out).mono ?_;rintro e w2 ⟨rfl,hb2⟩;have HV:=hid hb2;clear hb2))
  go_ret2
  exact⟨_,rfl,gro HB.out HV.out,.inr (by rw[HD0.out];exact (HA.out.2.2.1.bk.grown (gro HB.out HV.out)).ht _ _)⟩
 |true=>
  have hpl2:=hpl rfl
  clear hpl
  have hdf:=HA.out.2.2.2.2.2.2.2.1 rfl
  have HDF:=hid hdf
  clear hdf
  by_cases hone:m.length=1
  ·have hm1:m.length=1:=hone
   have hnil:Hm.del key m=[]:=by rw[HDF.out];apply List.eq_nil_of_length_eq_zero;simp;omega
   have HN:=hid (Qa hnil hone)
   have i1:((m.length:Int) == 1)=true:=by rw[beq_iff_eq];omega
   clear hnil hone hm1
   go_enter Tryz.func118,Tryz.ntmps118
   go_upto_region 1 with fail
   refine Qe (fun w'=>Below w.heap.size w w') HBX.out.2 ?_
   rintro w1 hb1
   have k32:w1.cell? ⟨pa,32,none⟩=some (.slice A m.length c):=Xd (HA.out.2.2.1.blk.grown hb1) HA.out.2.2.1.len
   have HB:=hid hb1
   clear hb1
   go_wp2_with (
    (go_at_call 94;refine (HA.out.2.2.2.2.2.2.1 w1 HB.out).mono ?_;rintro e w2 ⟨rfl,hb2⟩;have HV:=hid hb2;have k32b:w2.cell? ⟨pa,32,none⟩=some (.slice A m.length c):=Xd (HA.out.2.2.1.blk.grown (gro HB.out hb2)) HA.out.2.2.1.len;clear hb2 k32))
   go_ret2
   exact⟨_,rfl,gro HB.out HV.out,.inl ⟨HN.out.1,rfl⟩⟩
  ·have i1:((m.length:Int) == 1)=false:=by rw[beq_eq_false_iff_ne];omega
   have hlen:(Hm.del key m).length=m.length-1:=by rw[HDF.out];simp;omega
   have HN:=hid (Qa hlen hone)
   clear hlen hone
   go_enter Tryz.func118,Tryz.ntmps118
   go_upto_region 1 with fail
   refine Qe (fun w'=>Below w.heap.size w w') HBX.out.2 ?_
   rintro w1 hb1
   have k32:w1.cell? ⟨pa,32,none⟩=some (.slice A m.length c):=Xd (HA.out.2.2.1.blk.grown hb1) HA.out.2.2.1.len
   have HB:=hid hb1
   clear hb1
   go_upto_region 9 with (
    (go_at_call 94;refine (HA.out.2.2.2.2.2.2.1 w1 HB.out).mono ?_;rintro e w2 ⟨rfl,hb2⟩;have HV:=hid hb2;have k32b:w2.cell? ⟨pa,32,none⟩=some (.slice A m.length c):=Xd (HA.out.2.2.1.blk.grown (gro HB.out hb2)) HA.out.2.2.1.len;clear hb2 k32))
   clear k32b
   have hb2:=gro HB.out HV.out
   have HS:∀ w',Below w2.heap.size w2 w'→w'.cell? ⟨pa,32,none⟩=some (.slice A m.length c)∧w'.rangeAt pa 0 (of.map b8):=fun w' hb=>
    ⟨Xd (HA.out.2.2.1.blk.grown (gro hb2 hb)) HA.out.2.2.1.len,Y1 (HA.out.2.2.1.blk.grown (gro hb2 hb))⟩
   have hd:Below w2.heap.size w2 w2.drew:=(Below.refl _ _).drew
   have hcl:=Z4 A m.length c L.flatten w2.drew HA.out.2.2.1.at_.flat (HA.out.2.2.1.rd.grown (gro hb2 hd)) HA.out.2.2.1.at_.oc (by omega)
   have HT:=hid (Qa HS (Qa hd (Qa hcl hb2)))
   clear HS hd hcl hb2 HB HV
   have hu:=Tryz.underlying40
   have hi:(Tryz.prog.info? 40).map (·.size)=some (of.map b8).length:=by rw[HL.out];exact Xy
   have hl:=HL.out
   have hone:=Qi of
   have hw1:IntKind.i64.wrap ((po:Int)+1)=(po:Int)+1:=by rw[IntKind.wrap_i64];omega
   go_region_held3 (fun w'=>w'.cell? ⟨pa,32,none⟩=some (.slice A m.length c)∧w'.rangeAt pa 0 (of.map b8))
    (first|exact HT.out.1 _ HT.out.2.1|exact HT.out.1 _ H7.out.1|exact H6.out.1|exact HT.out.1 _ H5.out.1)
    (first
      |(go_at_call 162
        refine HT.out.2.2.1.mono ?_
        rintro e w5 ⟨v5,rfl,hb5,ho5,-⟩
        have h5:=gro HT.out.2.1 hb5
        have hde:=VC w2.drew.heap.size m.length po v5 L.flatten w5 ho5 HA.out.2.2.1.at_.oc hml hpl2 hb5.size
        have H5:=hid (Qa h5 hde)
        clear hb5 ho5 h5 hde)
      |(go_at_call 168
        refine H5.out.2.mono ?_
        rintro e w6 ⟨A6,c6,rfl,hb6,hrd6,hc6,hA6,-,hty6⟩
        have hb6':Below w2.heap.size w2 w6:=H5.out.1.trans hb6
        have hbl6:Below w.heap.size w w6:=gro HT.out.2.2.2 hb6'
        have hpour:=Qdu h1 h2 HA.out.1 HA.out.2.1 HA.out.2.2.1 hbl6 hrd6 HDF.out (HA.out.2.2.2.2.2.1.filter _) HN.out.1 (c6:=c6)
        have H6:=hid (Qa (HT.out.1 w6 hb6') (Qa hbl6 (Qa hpour (Qa hb6' (Qa hc6 hty6)))))
        clear hb6 hb6' hrd6 hc6 hA6 hpour hbl6 hty6)
      |(go_at_call 161
        refine H6.out.2.2.1.1.mono ?_
        rintro e w7 ⟨pb,rfl,hb7,hk7⟩
        have H7:=hid (Qa (gro H6.out.2.2.2.1 hb7) (Qa hb7 hk7))
        clear hb7 hk7))
   go_wp2_with fail
   go_ret2
   refine⟨_,rfl,gro H6.out.2.1 H7.out.2.1,.inr ((Jr (by rw[HN.out.1];exact H7.out.2.2) H7.out.2.1 H6.out.2.2.1.2.1 H6.out.2.2.1.2.2 (by rw[HN.out.1];exact H6.out.2.2.2.2.1) ?_ HA.out.2.2.1.len ?_ H6.out.2.2.2.2.2).ht _ _)⟩
   ·intro p hp
    exact HA.out.2.2.1.key p (Hm.mem_del.1 hp).1
   ·intro e
    have:=HN.out.1
    rw[e] at this
    simp at this
    have:=HN.out.2
    omega
namespace Hm
theorem dig_key {n t:Nat}{p:Pr}{k:List UInt8}(h:p.key=k):dig n t p=Dg.digit (Dg.key n k) t:=by unfold dig;rw[h]
theorem hasKey_child {n t:Nat}{m:List Pr}{k:List UInt8}:hasKey k (child n t (Dg.digit (Dg.key n k) t) m)=hasKey k m:=by
 rw[Bool.eq_iff_iff,hasKey_iff,hasKey_iff]
 constructor
 ·rintro⟨p,hp,e⟩;exact⟨p,(mem_child.1 hp).1,e⟩
 ·rintro⟨p,hp,e⟩;exact⟨p,mem_child.2 ⟨hp,dig_key e⟩,e⟩
theorem hasKey_none {n t:Nat}{m:List Pr}{k:List UInt8}(h:has n t m (Dg.digit (Dg.key n k) t)=false):hasKey k m=false:=by
 cases hk:hasKey k m with
 |false=>rfl
 |true=>
  obtain⟨p,hp,e⟩:=hasKey_iff.1 hk
  have:=has_iff.2 ⟨p,hp,dig_key (n:=n) (t:=t) e⟩
  rw[h] at this;cases this
theorem child_del_other {n t i:Nat}{m:List Pr}{k:List UInt8}(h:i≠Dg.digit (Dg.key n k) t):child n t i (del k m)=child n t i m:=by
 rw[child_del]
 refine del_none ?_
 cases hk:hasKey k (child n t i m) with
 |false=>rfl
 |true=>
  obtain⟨p,hp,e⟩:=hasKey_iff.1 hk
  exact absurd ((mem_child.1 hp).2.symm.trans (dig_key e)) h
theorem has_child {n t i:Nat}{m:List Pr}:has n t m i=!(child n t i m).isEmpty:=by
 rw[Bool.eq_iff_iff,has_iff]
 constructor
 ·rintro⟨p,hp,e⟩
  have:=mem_child.2 ⟨hp,e⟩
  cases hc:child n t i m with
  |nil=>rw[hc] at this;cases this
  |cons a r=>rfl
 ·intro h
  cases hc:child n t i m with
  |nil=>rw[hc] at h;simp at h
  |cons a r=>
   have:a∈child n t i m:=by rw[hc];simp
   exact⟨a,(mem_child.1 this).1,(mem_child.1 this).2⟩
theorem has_del_other {n t i:Nat}{m:List Pr}{k:List UInt8}(h:i≠Dg.digit (Dg.key n k) t):has n t (del k m) i=has n t m i:=by rw[has_child,has_child,child_del_other h]
theorem digs_del (n t:Nat)(m:List Pr)(k:List UInt8):digs n t (del k m)=lo (has n t m) (Dg.digit (Dg.key n k) t)++((if (child n t (Dg.digit (Dg.key n k) t) (del k m)).isEmpty then [] else [Dg.digit (Dg.key n k) t])++hi (has n t m) (Dg.digit (Dg.key n k) t)):=by
 unfold digs
 rw[digs_split _ _ (Dg.digit_lt (Dg.key n k) t),has_child]
 rw[lo_congr (Q:=has n t m) fun i hi=>has_del_other hi,hi_congr (Q:=has n t m) fun i hi=>has_del_other hi]
 cases (child n t (Dg.digit (Dg.key n k) t) (del k m)).isEmpty<;>rfl
theorem bm_del_gone {n t:Nat}{m:List Pr}{k:List UInt8}(h:child n t (Dg.digit (Dg.key n k) t) (del k m)=[]):bm n t (del k m)=Nib.del (bm n t m) (Dg.digit (Dg.key n k) t):=by
 unfold bm
 rw[bmf_del _ _ (Dg.digit_lt _ _)]
 refine bmf_congr fun i _=>?_
 by_cases hi:i=Dg.digit (Dg.key n k) t
 ·subst hi;rw[has_child,h];simp
 ·rw[has_del_other hi];simp[hi]
theorem bm_del_stay {n t:Nat}{m:List Pr}{k:List UInt8}(h:child n t (Dg.digit (Dg.key n k) t) (del k m)≠[]):bm n t (del k m)=bm n t m:=by
 unfold bm
 refine bmf_congr fun i _=>?_
 by_cases hi:i=Dg.digit (Dg.key n k) t
 ·subst hi
  have h1:has n t (del k m) (Dg.digit (Dg.key n k) t)=true:=by
   rw[has_child]
   cases hc:child n t (Dg.digit (Dg.key n k) t) (del k m) with
   |nil=>exact absurd hc h
   |cons=>rfl
  obtain⟨p,hp,e⟩:=has_iff.1 h1
  rw[h1,has_iff.2 ⟨p,(mem_del.1 hp).1,e⟩]
 ·exact has_del_other hi
theorem del_ne {n:Nat}{m:List Pr}{k:List UInt8}(h:single n m=false):del k m≠[]:=by
 intro e
 have:single n m=true:=single_iff.2 fun p hp q hq=>by
  have g:∀ p∈m,p.key=k:=fun p hp=>by
   by_cases hk:p.key=k
   ·exact hk
   ·have:=mem_del.2 ⟨hp,hk⟩
    rw[e] at this;cases this
  rw[g p hp,g q hq]
 rw[h] at this;cases this
theorem child_whole {n t i:Nat}{m:List Pr}(h:digs n t m=[i]):child n t i m=m:=by
 unfold child
 rw[List.filter_eq_self]
 intro p hp
 have:dig n t p∈digs n t m:=mem_digs.2 ⟨p,hp,rfl⟩
 rw[h,List.mem_singleton] at this
 simp[this]
theorem many_digs {n t:Nat}{m:List Pr}(h:(digs n t m).length≠1)(hne:m≠[]):single n m=false:=by
 cases hs:single n m with
 |false=>rfl
 |true=>
  exfalso
  apply h
  cases hm:m with
  |nil=>exact absurd hm hne
  |cons p r=>
   have hp:p∈m:=by rw[hm];simp
   have e:digs n t m=[dig n t p]:=by
    unfold digs
    rw[← two_eq (dig n t p) (dig_lt _ _ _)]
    refine List.filter_congr fun k _=>?_
    rw[Bool.eq_iff_iff,has_iff]
    simp only[Bool.or_self,beq_iff_eq]
    constructor
    ·rintro⟨q,hq,rfl⟩
     unfold dig;rw[single_iff.1 hs q hq p hp]
    ·rintro rfl;exact⟨p,hp,rfl⟩
   rw[← hm,e];rfl
end Hm
theorem QL.kind [Inhabited LoT]{S:Nat→Prop}{w:World}{n f t:Nat}{v:Value}{m:List Pr}(h:QL S w n f t v m):(∃ p,v=nbk p∧Bk w n (nbk p) m)∨(∃ p,v=nbr p∧Hm.single n m=false):=by
 cases f with
 |zero=>obtain⟨b,of,A,c,L,e,h'⟩:=h;subst e;exact .inl ⟨b,rfl,b,of,A,c,L,rfl,h'⟩
 |succ f=>
  rcases h with ⟨_,b,of,A,c,L,e,h'⟩|⟨h1,b,_,_,_,_,e,_⟩
  ·subst e;exact .inl ⟨b,rfl,b,of,A,c,L,rfl,h'⟩
  ·exact .inr ⟨b,e,h1⟩
abbrev Zz:Nat→Prop:=fun _=>True
theorem Zn.kids_del [Inhabited LoT]{w w':World}{n f t pb:Nat}{m:List Pr}{A:Option Addr}{c:Nat}{z:Int}{val:Nat→Value}{k:List UInt8}{v:Value}(h:Zn Zz w n f t pb m A c z val)(hb:Below w.heap.size w w')(hv:Hm.child n t (Dg.digit (Dg.key n k) t) (Hm.del k m)≠[]→QL Zz w' n f (t+1) v (Hm.child n t (Dg.digit (Dg.key n k) t) (Hm.del k m))):
 ∀ i∈Hm.digs n t (Hm.del k m),QL Zz w' n f (t+1) (if i=Dg.digit (Dg.key n k) t then v else val i) (Hm.child n t i (Hm.del k m)):=by
 intro i hi
 by_cases hd:i=Dg.digit (Dg.key n k) t
 ·subst hd
  rw[if_pos rfl]
  exact hv (Hm.child_ne hi)
 ·rw[if_neg hd,Hm.child_del_other hd]
  refine QL.grown hb (h.kids i ?_)
  obtain⟨p,hp,e⟩:=Hm.mem_digs.1 hi
  exact Hm.mem_digs.2 ⟨p,(Hm.mem_del.1 hp).1,e⟩
theorem Qdv {α:Type}(P:Nat→Bool)(d:Nat)(val:Nat→α)(v:α):(Hm.lo P d++Hm.hi P d).map (fun k=>if k=d then v else val k)=(Hm.lo P d).map val++(Hm.hi P d).map val:=by
 rw[List.map_append]
 congr 1
 ·exact List.map_congr_left fun k hk=>by rw[if_neg (by have:=(Hm.mem_lo hk).1;omega)]
 ·exact List.map_congr_left fun k hk=>by rw[if_neg (by have:=(Hm.mem_hi hk).1;omega)]
theorem Zn.ht [Inhabited LoT]{S:Nat→Prop}{w:World}{n f t pb:Nat}{m:List Pr}{A:Option Addr}{c:Nat}{z:Int}{val:Nat→Value}(h:Zn S w n f t pb m A c z val):QL S w n (f+1) t (nbr pb) m:= .inr ⟨h.many,pb,A,c,z,val,rfl,h.blk,h.rd,h.cap,h.own,h.kids⟩
theorem VG [Inhabited LoT](b n:Nat)(h1:1≤n)(h2:n≤32)(f t pb:Nat)(hft:f+1+t=2*n)(m:List Pr)(key:List UInt8)(A:Option Addr)(c:Nat)(z:Int)(val:Nat→Value)(Ak:Option Addr)(ck:Nat)(w:World)(hw:Qs w)(hm:XF w b n)(ha:Zn Zz w n f t pb m A c z val)(hk:Rd w Ak (key.map b8))(hs:Hm.Srt n m)
 (hh:Hm.has n t m (Dg.digit (Dg.key n key) t)=false):
 Calls Tryz.prog 118 #[ptr b,nbr pb,.int .i64 t,dg (Dg.key n key),.slice Ak key.length ck] w fun e w'=>∃ v',e= .returned (.tuple #[v',.bool (Hm.hasKey key m)])∧Below w.heap.size w w'∧Tp Zz w' n (f+1) t v' (Hm.del key m):=by
 have hkn:=Hm.hasKey_none hh
 rw[hkn]
 have HN:=hid (Hm.del_none hkn)
 clear hkn
 have hkl:=Dg.sum_length n (Dg.keyIn key) h2
 have hklen:(Dg.key n key).length=32:=hkl
 have hkf:Dg.form n (Dg.key n key)=true:=Dg.form_sum _ _ h2
 have hdl:=Dg.digit_lt (Dg.key n key) t
 have hrk:Nib.rank (Hm.bm n t m) (Dg.digit (Dg.key n key) t)=(Hm.lo (Hm.has n t m) (Dg.digit (Dg.key n key) t)).length:=Hm.bmf_rank _ _ hdl
 have hhs:Nib.has (Hm.bm n t m) (Dg.digit (Dg.key n key) t)=false:=by unfold Hm.bm;rw[Hm.bmf_has _ _ hdl];exact hh
 have hbm:=Hm.bm_lt n t m
 have hdo:=Hm.digs_old n t m _ hdl
 have hdd:=fun w' (hb:Below w.heap.size w w')=>Xo b n h1 h2 _ hklen hkf t (by omega) w' (hm.grown hb)
 generalize hK:Dg.key n key=K at hklen hkf hdd hdl hrk hhs hdo hh
 have HK:=hid hK
 generalize hdv:Dg.digit K t=d at hdl hrk hhs hdo hdd hh
 have HDV:=hid hdv
 generalize hr:(Hm.lo (Hm.has n t m) d).length=r at hrk
 have hd16:(Hm.digs n t m).length≤16:=Hm.digs_le (Hm.has n t m)
 generalize hq:Hm.bm n t m=q at hbm hhs hrk
 have HL:=hid (show (K.map b8).length=32 by simp[hklen])
 have k0:=ha.blk
 rw[hq] at k0
 generalize hkk:(Hm.digs n t m).length=kk at k0 hd16
 have HA:=hid (Qa hw (Qa hm (Qa ha (Qa hk (Qa hs hdd)))))
 have HQ:=hid (Qa hq (Qa hrk (Qa hdo (Qa hr (Qa hh hkk)))))
 have HBL:=hid k0
 clear hw hm ha hk hs hK hkl hdd hq hrk hdo hr k0 hkk hh hdv hkf
 have HBX:=hid (Kx w K)
 go_enter Tryz.func118,Tryz.ntmps118
 go_upto_region 1 with fail
 refine Qe (fun w'=>Blk w' w.heap.size 40 (K.map b8)∧Below w.heap.size w w') HBX.out ?_
 rintro w1 ⟨hb1,hbl1⟩
 have hr1:=hb1.whole
 have HB:=hid (Qa hb1 hbl1)
 clear hb1 hbl1 HBX
 go_wp2_with (first
  |((with_reducible refine Qf 40 (.tmp 8) w.heap.size 0 _ 32 _ HL.out hr1 Tryz.underlying40 rfl (by kernel_rfl) ?_ ?_ ?_ ?_);rfl;rfl;rfl)
  |(go_at_call 96
    refine (HA.out.2.2.2.2.2 w1 HB.out.2).mono ?_
    rintro e w3 ⟨rfl,hb3⟩
    have k3:=Zj (HBL.out.grown (gro HB.out.2 hb3))
    have HV:=hid hb3;clear hb3)
  |(go_at_call 91
    refine (XD q d hbm hdl _).mono ?_
    rw[hhs]
    rintro e w6 ⟨rfl,rfl⟩))
 go_ret2
 exact⟨_,rfl,gro HB.out.2 HV.out,.inr (by rw[HN.out];exact (HA.out.2.2.1.grown (gro HB.out.2 HV.out)).ht)⟩
theorem Ur [Inhabited LoT](b n:Nat)(h1:1≤n)(h2:n≤32)(f t pb:Nat)(hft:f+1+t=2*n)(m:List Pr)(key:List UInt8)(A:Option Addr)(c:Nat)(z:Int)(val:Nat→Value)(Ak:Option Addr)(ck:Nat)(w:World)(hw:Qs w)(hm:XF w b n)(ha:Zn Zz w n f t pb m A c z val)(hk:Rd w Ak (key.map b8))(hs:Hm.Srt n m)
 (hh:Hm.has n t m (Dg.digit (Dg.key n key) t)=true)
 (hkn:Hm.hasKey key m=false)
 (hrec:∀ w',Below w.heap.size w w'→Calls Tryz.prog 118 #[ptr b,val (Dg.digit (Dg.key n key) t),.int .i64 ((t:Int)+1),dg (Dg.key n key),.slice Ak key.length ck] w' fun e w''=>∃ v',e= .returned (.tuple #[v',.bool false])∧Below w'.heap.size w' w''):
 Calls Tryz.prog 118 #[ptr b,nbr pb,.int .i64 t,dg (Dg.key n key),.slice Ak key.length ck] w fun e w'=>∃ v',e= .returned (.tuple #[v',.bool (Hm.hasKey key m)])∧Below w.heap.size w w'∧Tp Zz w' n (f+1) t v' (Hm.del key m):=by
 rw[hkn]
 have HN:=hid (Hm.del_none hkn)
 clear hkn
 have hkl:=Dg.sum_length n (Dg.keyIn key) h2
 have hklen:(Dg.key n key).length=32:=hkl
 have hkf:Dg.form n (Dg.key n key)=true:=Dg.form_sum _ _ h2
 have hdl:=Dg.digit_lt (Dg.key n key) t
 have hrk:Nib.rank (Hm.bm n t m) (Dg.digit (Dg.key n key) t)=(Hm.lo (Hm.has n t m) (Dg.digit (Dg.key n key) t)).length:=Hm.bmf_rank _ _ hdl
 have hhs:Nib.has (Hm.bm n t m) (Dg.digit (Dg.key n key) t)=true:=by unfold Hm.bm;rw[Hm.bmf_has _ _ hdl];exact hh
 have hbm:=Hm.bm_lt n t m
 have hdo:=Hm.digs_old n t m _ hdl
 have hdd:=fun w' (hb:Below w.heap.size w w')=>Xo b n h1 h2 _ hklen hkf t (by omega) w' (hm.grown hb)
 generalize hK:Dg.key n key=K at hklen hkf hdd hdl hrk hhs hdo hh hrec
 have HK:=hid hK
 generalize hdv:Dg.digit K t=d at hdl hrk hhs hdo hdd hh hrec
 have HDV:=hid hdv
 generalize hr:(Hm.lo (Hm.has n t m) d).length=r at hrk
 have hd16:(Hm.digs n t m).length≤16:=Hm.digs_le (Hm.has n t m)
 generalize hq:Hm.bm n t m=q at hbm hhs hrk
 have HL:=hid (show (K.map b8).length=32 by simp[hklen])
 have k0:=ha.blk
 rw[hq] at k0
 generalize hkk:(Hm.digs n t m).length=kk at k0 hd16
 have hrkk:r<kk:=by rw[← hkk,hdo,hh];simp[hr]
 have HREC:=hid hrec
 clear hrec
 have HA:=hid (Qa hw (Qa hm (Qa ha (Qa hk (Qa hs hdd)))))
 have HQ:=hid (Qa hq (Qa hrk (Qa hdo (Qa hr (Qa hh hkk)))))
 have HBL:=hid k0
 clear hw hm ha hk hs hK hkl hdd hq hrk hdo hr k0 hkk hh hdv hkf
 have HBX:=hid (Kx w K)
 go_enter Tryz.func118,Tryz.ntmps118
 go_upto_region 1 with fail
 refine Qe (fun w'=>Blk w' w.heap.size 40 (K.map b8)∧Below w.heap.size w w') HBX.out ?_
 rintro w1 ⟨hb1,hbl1⟩
 have hr1:=hb1.whole
 have HB:=hid (Qa hb1 hbl1)
 clear hb1 hbl1 HBX
 go_upto_region 16 with (first
  |((with_reducible refine Qf 40 (.tmp 8) w.heap.size 0 _ 32 _ HL.out hr1 Tryz.underlying40 rfl (by kernel_rfl) ?_ ?_ ?_ ?_);rfl;rfl;rfl)
  |(go_at_call 96
    refine (HA.out.2.2.2.2.2 w1 HB.out.2).mono ?_
    rintro e w3 ⟨rfl,hb3⟩
    have k3:=Zj (HBL.out.grown (gro HB.out.2 hb3))
    have HV:=hid hb3;clear hb3)
  |(go_at_call 91
    refine (XD q d hbm hdl _).mono ?_
    rw[hhs]
    rintro e w6 ⟨rfl,rfl⟩)
  |(go_at_call 90
    refine (XP q d hbm hdl _).mono ?_
    rw[HQ.out.2.1]
    rintro e w4 ⟨rfl,hb4⟩
    have HY:=hid hb4;clear hb4 k3))
 have hbw4:=gro HB.out.2 (gro HV.out HY.out)
 obtain⟨gA,oA,rfl,hrA⟩:=HA.out.2.2.1.rd (by intro e;have:=congrArg List.length e;rw[List.length_map,HQ.out.2.2.2.2.2] at this;simp at this;omega)
 have hpi:(0:Int)≤(r:Int)∧(r:Int)< (kk:Int):=by omega
 have hcA:w.cell? ⟨gA,oA+r,none⟩=some (val d):=by
  have h:=hrA r (val d) (by
   rw[HQ.out.2.2.1,HQ.out.2.2.2.2.1,if_pos rfl,List.map_append,List.getElem?_append_right (by rw[List.length_map,HQ.out.2.2.2.1];exact Nat.le_refl _),List.length_map,HQ.out.2.2.2.1,Nat.sub_self]
   rfl)
  exact h
 have HS:∀ w',Below w4.heap.size w4 w'→w'.cell? ⟨pb,1,none⟩=some (.slice (some ⟨gA,oA,none⟩) kk c)∧w'.cell? ⟨gA,oA+r,none⟩=some (val d)∧w'.rangeAt w.heap.size 0 (K.map b8):=fun w' hb=>
  ⟨XB (HBL.out.grown (gro hbw4 hb)),by rw[(gro hbw4 hb).cell (p:=⟨gA,oA+r,none⟩) (World.block_lt_of_cell? w _ hcA)];exact hcA,(HB.out.1.grown (gro (gro HV.out HY.out) hb)).whole⟩
 have hd:Below w4.heap.size w4 w4.drew:=(Below.refl _ _).drew
 have hdr:=HREC.out w4.drew (gro hbw4 hd)
 have HT:=hid (Qa HS (Qa hd (Qa hdr hbw4)))
 clear HS hd hdr hbw4 hrA hcA hr1 HB HV HY
 have hu:=Tryz.underlying40
 have hi:(Tryz.prog.info? 40).map (·.size)=some (K.map b8).length:=by rw[HL.out];exact Xy
 have hl:=HL.out
 have hone:=Qi K
 have hw1:IntKind.i64.wrap ((t:Int)+1)=(t:Int)+1:=by rw[IntKind.wrap_i64];omega
 go_region_held3 (fun w'=>w'.cell? ⟨pb,1,none⟩=some (.slice (some ⟨gA,oA,none⟩) kk c)∧w'.cell? ⟨gA,oA+r,none⟩=some (val d)∧w'.rangeAt w.heap.size 0 (K.map b8))
  (first|exact HT.out.1 _ HT.out.2.1|exact HT.out.1 _ H5.out.1)
  (
   (go_at_call 118
    refine HT.out.2.2.1.mono ?_
    rintro e w5 ⟨v5,rfl,hb5⟩
    have H5:=hid (Qa (gro HT.out.2.1 hb5) True.intro)
    clear hb5))
 clear hu hi hl hone hw1
 go_wp2_with fail
 go_ret2
 exact⟨_,rfl,gro HT.out.2.2.2 H5.out.1,.inr (by rw[HN.out];exact (HA.out.2.2.1.grown (gro HT.out.2.2.2 H5.out.1)).ht)⟩
theorem VH [Inhabited LoT](b n:Nat)(h1:1≤n)(h2:n≤32)(f t pb:Nat)(hft:f+1+t=2*n)(m:List Pr)(key:List UInt8)(A:Option Addr)(c:Nat)(z:Int)(val:Nat→Value)(Ak:Option Addr)(ck:Nat)(w:World)(hw:Qs w)(hm:XF w b n)(ha:Zn Zz w n f t pb m A c z val)(hk:Rd w Ak (key.map b8))(hs:Hm.Srt n m)
 (hh:Hm.has n t m (Dg.digit (Dg.key n key) t)=true)
 (hkn:Hm.hasKey key m=true) (hc2e:Hm.child n t (Dg.digit (Dg.key n key) t) (Hm.del key m)=[])
 (hrec:∀ w',Below w.heap.size w w'→Calls Tryz.prog 118 #[ptr b,val (Dg.digit (Dg.key n key) t),.int .i64 ((t:Int)+1),dg (Dg.key n key),.slice Ak key.length ck] w' fun e w''=>e= .returned (.tuple #[.nilIface,.bool true])∧Below w'.heap.size w' w''):
 Calls Tryz.prog 118 #[ptr b,nbr pb,.int .i64 t,dg (Dg.key n key),.slice Ak key.length ck] w fun e w'=>∃ v',e= .returned (.tuple #[v',.bool (Hm.hasKey key m)])∧Below w.heap.size w w'∧Tp Zz w' n (f+1) t v' (Hm.del key m):=by
 rw[hkn]
 clear hkn
 have hkl:=Dg.sum_length n (Dg.keyIn key) h2
 have hklen:(Dg.key n key).length=32:=hkl
 have hkf:Dg.form n (Dg.key n key)=true:=Dg.form_sum _ _ h2
 have hdl:=Dg.digit_lt (Dg.key n key) t
 have hrk:Nib.rank (Hm.bm n t m) (Dg.digit (Dg.key n key) t)=(Hm.lo (Hm.has n t m) (Dg.digit (Dg.key n key) t)).length:=Hm.bmf_rank _ _ hdl
 have hhs:Nib.has (Hm.bm n t m) (Dg.digit (Dg.key n key) t)=true:=by unfold Hm.bm;rw[Hm.bmf_has _ _ hdl];exact hh
 have hbm:=Hm.bm_lt n t m
 have hdo:=Hm.digs_old n t m _ hdl
 have hdd:=fun w' (hb:Below w.heap.size w w')=>Xo b n h1 h2 _ hklen hkf t (by omega) w' (hm.grown hb)
 generalize hK:Dg.key n key=K at hklen hkf hdd hdl hrk hhs hdo hh hrec
 have HK:=hid hK
 generalize hdv:Dg.digit K t=d at hdl hrk hhs hdo hdd hh hrec
 have HDV:=hid hdv
 generalize hr:(Hm.lo (Hm.has n t m) d).length=r at hrk
 have hd16:(Hm.digs n t m).length≤16:=Hm.digs_le (Hm.has n t m)
 generalize hq:Hm.bm n t m=q at hbm hhs hrk
 have HL:=hid (show (K.map b8).length=32 by simp[hklen])
 have k0:=ha.blk
 rw[hq] at k0
 generalize hkk:(Hm.digs n t m).length=kk at k0 hd16
 have hrkk:r<kk:=by rw[← hkk,hdo,hh];simp[hr]
 have HREC:=hid hrec
 clear hrec
 obtain⟨N1,hN1⟩:∃ N1,N1=kk-1:=⟨_,rfl⟩
 have HN1:=hid hN1
 have hbmd:=Hm.bm_del_gone hc2e
 have hlen9:N1=(Hm.digs n t (Hm.del key m)).length:=by
  have h:=Hm.digs_del n t m key
  rw[hc2e] at h
  have h':Hm.digs n t (Hm.del key m)=Hm.lo (Hm.has n t m) (Dg.digit (Dg.key n key) t)++Hm.hi (Hm.has n t m) (Dg.digit (Dg.key n key) t):=by simpa using h
  rw[h',hK,hdv,hN1,←hkk,hdo,hh]
  simp
 rw[hK,hdv,hq] at hbmd
 rw[hK,hdv] at hc2e
 have HC2:=hid (Qa hc2e (Qa hlen9 hbmd))
 clear hc2e hN1 hbmd hlen9
 have HA:=hid (Qa hw (Qa hm (Qa ha (Qa hk (Qa hs hdd)))))
 have HQ:=hid (Qa hq (Qa hrk (Qa hdo (Qa hr (Qa hh hkk)))))
 have HBL:=hid k0
 clear hw hm ha hk hs hK hkl hdd hq hrk hdo hr k0 hkk hh hdv hkf
 have HBX:=hid (Kx w K)
 go_enter Tryz.func118,Tryz.ntmps118
 go_upto_region 1 with fail
 refine Qe (fun w'=>Blk w' w.heap.size 40 (K.map b8)∧Below w.heap.size w w') HBX.out ?_
 rintro w1 ⟨hb1,hbl1⟩
 have hr1:=hb1.whole
 have HB:=hid (Qa hb1 hbl1)
 clear hb1 hbl1 HBX
 go_upto_region 16 with (first
  |((with_reducible refine Qf 40 (.tmp 8) w.heap.size 0 _ 32 _ HL.out hr1 Tryz.underlying40 rfl (by kernel_rfl) ?_ ?_ ?_ ?_);rfl;rfl;rfl)
  |(go_at_call 96
    refine (HA.out.2.2.2.2.2 w1 HB.out.2).mono ?_
    rintro e w3 ⟨rfl,hb3⟩
    have k3:=Zj (HBL.out.grown (gro HB.out.2 hb3))
    have HV:=hid hb3;clear hb3)
  |(go_at_call 91
    refine (XD q d hbm hdl _).mono ?_
    rw[hhs]
    rintro e w6 ⟨rfl,rfl⟩)
  |(go_at_call 90
    refine (XP q d hbm hdl _).mono ?_
    rw[HQ.out.2.1]
    rintro e w4 ⟨rfl,hb4⟩
    have HY:=hid hb4;clear hb4 k3))
 have hbw4:=gro HB.out.2 (gro HV.out HY.out)
 obtain⟨gA,oA,rfl,hrA⟩:=HA.out.2.2.1.rd (by intro e;have:=congrArg List.length e;rw[List.length_map,HQ.out.2.2.2.2.2] at this;simp at this;omega)
 have hpi:(0:Int)≤(r:Int)∧(r:Int)< (kk:Int):=by omega
 have hcA:w.cell? ⟨gA,oA+r,none⟩=some (val d):=by
  have h:=hrA r (val d) (by
   rw[HQ.out.2.2.1,HQ.out.2.2.2.2.1,if_pos rfl,List.map_append,List.getElem?_append_right (by rw[List.length_map,HQ.out.2.2.2.1];exact Nat.le_refl _),List.length_map,HQ.out.2.2.2.1,Nat.sub_self]
   rfl)
  exact h
 have HS:∀ w',Below w4.heap.size w4 w'→w'.cell? ⟨pb,1,none⟩=some (.slice (some ⟨gA,oA,none⟩) kk c)∧w'.cell? ⟨gA,oA+r,none⟩=some (val d)∧w'.rangeAt w.heap.size 0 (K.map b8):=fun w' hb=>
  ⟨XB (HBL.out.grown (gro hbw4 hb)),by rw[(gro hbw4 hb).cell (p:=⟨gA,oA+r,none⟩) (World.block_lt_of_cell? w _ hcA)];exact hcA,(HB.out.1.grown (gro (gro HV.out HY.out) hb)).whole⟩
 have hd:Below w4.heap.size w4 w4.drew:=(Below.refl _ _).drew
 have hdr:=HREC.out w4.drew (gro hbw4 hd)
 have HT:=hid (Qa HS (Qa hd (Qa hdr hbw4)))
 clear HS hd hdr hbw4 hrA hcA hr1 HB HV HY
 have hu:=Tryz.underlying40
 have hi:(Tryz.prog.info? 40).map (·.size)=some (K.map b8).length:=by rw[HL.out];exact Xy
 have hl:=HL.out
 have hone:=Qi K
 have hw1:IntKind.i64.wrap ((t:Int)+1)=(t:Int)+1:=by rw[IntKind.wrap_i64];omega
 go_region_held3 (fun w'=>w'.cell? ⟨pb,1,none⟩=some (.slice (some ⟨gA,oA,none⟩) kk c)∧w'.cell? ⟨gA,oA+r,none⟩=some (val d)∧w'.rangeAt w.heap.size 0 (K.map b8))
  (first|exact HT.out.1 _ HT.out.2.1|exact HT.out.1 _ H5.out.1)
  (
   (go_at_call 118
    refine HT.out.2.2.1.mono ?_
    rintro e w5 ⟨rfl,hb5⟩
    have H5:=hid (Qa (gro HT.out.2.1 hb5) True.intro)
    clear hb5))
 clear hu hi hl hone hw1
 go_upto_region 19 with fail
 have hbw5:=gro HT.out.2.2.2 H5.out.1
 have HS2:∀ w',Below w5.heap.size w5 w'→w'.cell? ⟨pb,1,none⟩=some (.slice (some ⟨gA,oA,none⟩) kk c)∧w'.cell? ⟨pb,0,none⟩=some (.int .u16 q):=fun w' hb=>⟨XB (HBL.out.grown (gro hbw5 hb)),Zj (HBL.out.grown (gro hbw5 hb))⟩
 have hd2:Below w5.heap.size w5 w5.drew:=(Below.refl _ _).drew
 have hcl:=Zk (some ⟨gA,oA,none⟩) kk c ((Hm.digs n t m).map val) w5.drew (by rw[List.length_map,HQ.out.2.2.2.2.2,Nat.mul_one]) (HA.out.2.2.1.rd.grown (gro hbw5 hd2)) HA.out.2.2.1.oc (by omega)
 have HU:=hid (Qa HS2 (Qa hd2 (Qa hcl hbw5)))
 clear HS2 hd2 hcl hbw5
 go_region_held3 (fun w'=>w'.cell? ⟨pb,1,none⟩=some (.slice (some ⟨gA,oA,none⟩) kk c)∧w'.cell? ⟨pb,0,none⟩=some (.int .u16 q))
  (first|exact HU.out.1 _ HU.out.2.1|exact HU.out.1 _ H6.out.1)
  (
   (go_at_call 164
    refine HU.out.2.2.1.mono ?_
    rintro e w6 ⟨v6,rfl,hb6,ho6,-⟩
    have H6:=hid (Qa (gro HU.out.2.1 hb6) (Qa ho6 hb6))
    clear hb6 ho6))
 have hw2:IntKind.i64.wrap ((r:Int)+1)=(r:Int)+1:=by rw[IntKind.wrap_i64];omega
 clear hw2
 have hde:=VD w5.drew.heap.size kk r v6 ((Hm.digs n t m).map val) w6 H6.out.2.1 HA.out.2.2.1.oc (by omega) hrkk H6.out.2.2.size
 have hrow0:(Hm.digs n t (Hm.del key m)).map (fun k=>if k=d then Value.nilIface else val k)=((Hm.digs n t m).map val).take (r*1)++((Hm.digs n t m).map val).drop ((r+1)*1):=by
  have h:=Hm.digs_del n t m key
  rw[HK.out,HDV.out,HC2.out.1] at h
  have h':Hm.digs n t (Hm.del key m)=Hm.lo (Hm.has n t m) d++Hm.hi (Hm.has n t m) d:=by simpa using h
  rw[h',Qdv,HQ.out.2.2.1,HQ.out.2.2.2.2.1,if_pos rfl,List.map_append,Nat.mul_one,Nat.mul_one]
  have hl:((Hm.lo (Hm.has n t m) d).map val).length=r:=by rw[List.length_map];exact HQ.out.2.2.2.1
  rw[List.take_append_of_le_length (by omega),List.take_of_length_le (by omega),List.drop_append,List.drop_eq_nil_of_le (by omega),hl,show r+1-r=1 by omega]
  rfl
 have hlen2:(Hm.digs n t (Hm.del key m)).length=kk-1:=by
  have:=congrArg List.length hrow0
  rw[List.length_map] at this
  rw[this]
  simp only[List.length_append,List.length_take,List.length_drop,List.length_map,HQ.out.2.2.2.2.2]
  omega
 have hne2:=Hm.del_ne (k:=key) HA.out.2.2.1.many
 rw[← HN1.out] at hde hlen2
 have HDE:=hid hde
 have HROW:=hid hrow0
 have HL2:=hid hlen2
 have HNE:=hid hne2
 clear hde hrow0 hlen2 hne2
 have hrb:(0:Int)≤(r:Int)∧(r:Int)<1048576:=by omega
 by_cases h1k:N1=1
 ·have j1:((N1:Int) == 1)=true:=by rw[beq_iff_eq];omega
  have j2:(0:Int)< (N1:Int):=by omega
  obtain⟨i0,hi0⟩:∃ i0,Hm.digs n t (Hm.del key m)=[i0]:=by
   have:=HL2.out
   rw[h1k] at this
   exact List.length_eq_one_iff.1 this
  have hi0d:i0≠d:=by
   rintro rfl
   have:i0∈Hm.digs n t (Hm.del key m):=by rw[hi0];simp
   have h:=Hm.child_ne this
   exact h HC2.out.1
  have hmem:i0∈Hm.digs n t m:=by
   have:i0∈Hm.digs n t (Hm.del key m):=by rw[hi0];simp
   obtain⟨p,hp,e⟩:=Hm.mem_digs.1 this
   exact Hm.mem_digs.2 ⟨p,(Hm.mem_del.1 hp).1,e⟩
  have hch:Hm.child n t i0 m=Hm.del key m:=by
   have h:=Hm.child_del_other (n:=n) (t:=t) (m:=m) (k:=key) (i:=i0) (by rw[HK.out,HDV.out];exact hi0d)
   rw[← h]
   exact Hm.child_whole hi0
  have HI0:=hid (Qa hi0 (Qa hi0d hch))
  have hkind:=(HA.out.2.2.1.kids i0 hmem).kind
  clear h1k hi0 hch hmem
  rcases hkind with ⟨p0,hp0,hbk0⟩|⟨p0,hp0,hmany0⟩
  ·rw[HI0.out.2.2] at hbk0
   have HB0:=hid (Qa hp0 hbk0)
   clear hp0 hbk0
   go_wp2_with (first
  |(go_at_call 169
    refine HDE.out.mono ?_
    rintro e w9 ⟨A9,c9,rfl,hb9,hrd9,hc9,-,-,hty9⟩
    have hbl9:Below w.heap.size w w9:=gro (gro HU.out.2.2.2 HU.out.2.1) (H6.out.2.2.trans (hb9.mono (Nat.le_refl _)))
    have hrow:Rd w9 A9 ((Hm.digs n t (Hm.del key m)).map fun k=>if k=d then Value.nilIface else val k):=by rw[HROW.out];exact hrd9
    have hkids:=HA.out.2.2.1.kids_del (k:=key) (v:=Value.nilIface) hbl9 (fun h=>absurd HC2.out.1 (by rw[HK.out,HDV.out] at h;exact h))
    rw[HK.out,HDV.out] at hkids
    rw[HI0.out.1,List.map_singleton,if_neg HI0.out.2.1,HB0.out.1] at hrow
    obtain⟨g9,o9,rfl,hr9⟩:=hrow (by simp)
    have k9:w9.cell? ⟨g9,o9,none⟩=some (nbk p0):=hr9 0 _ rfl
    have HW:=hid hbl9
    clear hb9 hrd9 hc9 hty9 hbl9 hkids hr9)
  |(go_at_call 170;refine (Z7 q d hbm hdl _).mono ?_;rintro e w10 ⟨rfl,rfl⟩))
   go_ret2
   exact⟨_,rfl,HW.out,.inr ((HB0.out.2.grown HW.out).ht _ _)⟩
  ·rw[HI0.out.2.2] at hmany0
   have HMANY:=hid hmany0
   have HB0:=hid hp0
   clear hp0 hmany0
   go_wp2_with (first
  |(go_at_call 169
    refine HDE.out.mono ?_
    rintro e w9 ⟨A9,c9,rfl,hb9,hrd9,hc9,-,-,hty9⟩
    have hbl9:Below w.heap.size w w9:=gro (gro HU.out.2.2.2 HU.out.2.1) (H6.out.2.2.trans (hb9.mono (Nat.le_refl _)))
    have hrow:Rd w9 A9 ((Hm.digs n t (Hm.del key m)).map fun k=>if k=d then Value.nilIface else val k):=by rw[HROW.out];exact hrd9
    have hkids:=HA.out.2.2.1.kids_del (k:=key) (v:=Value.nilIface) hbl9 (fun h=>absurd HC2.out.1 (by rw[HK.out,HDV.out] at h;exact h))
    rw[HK.out,HDV.out] at hkids
    have hfk:=ZD (S:=Zz) b n f t h1 h2 (Hm.del key m) HMANY.out (fun k=>if k=d then Value.nilIface else val k) A9 c9 N1 (Nib.del q d) _ (HA.out.1.below hbl9) (HA.out.2.1.grown hbl9) HC2.out.2.1 HC2.out.2.2.symm hrow hc9 ⟨fun _ _=>trivial,hty9⟩ hkids
    rw[HI0.out.1,List.map_singleton,if_neg HI0.out.2.1,HB0.out] at hrow
    obtain⟨g9,o9,rfl,hr9⟩:=hrow (by simp)
    have k9:w9.cell? ⟨g9,o9,none⟩=some (nbr p0):=hr9 0 _ rfl
    have HW:=hid (Qa hfk hbl9)
    clear hb9 hrd9 hc9 hty9 hbl9 hkids hr9 hfk)
  |(go_at_call 170;refine (Z7 q d hbm hdl _).mono ?_;rintro e w10 ⟨rfl,rfl⟩)
  |(go_at_call 166;refine HW.out.1.mono ?_;rintro e w11 ⟨b',rfl,hb',hh'⟩;have HV:=hid (Qa hb' hh');clear hb' hh'))
   go_ret2
   exact⟨_,rfl,gro HW.out.2 HV.out.1,.inr HV.out.2⟩
 ·have j1:((N1:Int) == 1)=false:=by rw[beq_eq_false_iff_ne];omega
  have HMANY:=hid (Hm.many_digs (n:=n) (t:=t) (m:=Hm.del key m) (by rw[HL2.out];exact h1k) HNE.out)
  clear h1k
  go_wp2_with (first
  |(go_at_call 169
    refine HDE.out.mono ?_
    rintro e w9 ⟨A9,c9,rfl,hb9,hrd9,hc9,-,-,hty9⟩
    have hbl9:Below w.heap.size w w9:=gro (gro HU.out.2.2.2 HU.out.2.1) (H6.out.2.2.trans (hb9.mono (Nat.le_refl _)))
    have hrow:Rd w9 A9 ((Hm.digs n t (Hm.del key m)).map fun k=>if k=d then Value.nilIface else val k):=by rw[HROW.out];exact hrd9
    have hkids:=HA.out.2.2.1.kids_del (k:=key) (v:=Value.nilIface) hbl9 (fun h=>absurd HC2.out.1 (by rw[HK.out,HDV.out] at h;exact h))
    rw[HK.out,HDV.out] at hkids
    have hfk:=ZD (S:=Zz) b n f t h1 h2 (Hm.del key m) HMANY.out (fun k=>if k=d then Value.nilIface else val k) A9 c9 N1 (Nib.del q d) _ (HA.out.1.below hbl9) (HA.out.2.1.grown hbl9) HC2.out.2.1 HC2.out.2.2.symm hrow hc9 ⟨fun _ _=>trivial,hty9⟩ hkids
    have HW:=hid (Qa hfk hbl9)
    clear hb9 hrd9 hc9 hty9 hbl9 hkids hrow hfk)
  |(go_at_call 170;refine (Z7 q d hbm hdl _).mono ?_;rintro e w10 ⟨rfl,rfl⟩)
  |(go_at_call 166;refine HW.out.1.mono ?_;rintro e w11 ⟨b',rfl,hb',hh'⟩;have HV:=hid (Qa hb' hh');clear hb' hh'))
  go_ret2
  exact⟨_,rfl,gro HW.out.2 HV.out.1,.inr HV.out.2⟩
end Go.Proofs.YtpnakfeafekneaaGreatDoor
