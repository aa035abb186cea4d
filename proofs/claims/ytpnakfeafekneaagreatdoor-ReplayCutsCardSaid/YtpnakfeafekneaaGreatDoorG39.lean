/- Part 39 of this proof. -/
import Derived.Test.YtpnakfeafekneaaGreatDoorG38
set_option linter.unusedSimpArgs false
set_option linter.unusedVariables false
set_option maxHeartbeats 8000000
set_option maxRecDepth 100000
namespace Go.Proofs.YtpnakfeafekneaaGreatDoor
open Go.RowKit
namespace Hm
def way (n:Nat)(d:List UInt8):Nat→Nat→List Pr→List (Nat×List (List UInt8))×List Pr
 |0,_,m=>([],m)
 |f+1,t,m=>if single n m then ([],m) else
   if has n t m (Dg.digit d t) then ((bm n t m,(digs n t m).map fun i=>node n f (t+1) (child n t i m)) :: (way n d f (t+1) (child n t (Dg.digit d t) m)).1,(way n d f (t+1) (child n t (Dg.digit d t) m)).2)
   else ([(bm n t m,(digs n t m).map fun i=>node n f (t+1) (child n t i m))],[])
theorem way_single {n:Nat}{d:List UInt8}{f t:Nat}{m:List Pr}(h:f=0∨single n m=true):way n d f t m=([],m):=by
 cases f with
 |zero=>rfl
 |succ f=>rw[way,if_pos (h.resolve_left (by omega))]
theorem way_yes {n:Nat}{d:List UInt8}{f t:Nat}{m:List Pr}(h:single n m=false)(hh:has n t m (Dg.digit d t)=true):way n d (f+1) t m=((bm n t m,(digs n t m).map fun i=>node n f (t+1) (child n t i m)) :: (way n d f (t+1) (child n t (Dg.digit d t) m)).1,(way n d f (t+1) (child n t (Dg.digit d t) m)).2):=by
 rw[way,if_neg (by rw[h];decide),if_pos hh]
theorem way_no {n:Nat}{d:List UInt8}{f t:Nat}{m:List Pr}(h:single n m=false)(hh:has n t m (Dg.digit d t)=false):way n d (f+1) t m=([(bm n t m,(digs n t m).map fun i=>node n f (t+1) (child n t i m))],[]):=by
 rw[way,if_neg (by rw[h];decide),if_neg (by rw[hh];decide)]
def look (E:List Pr)(key:List UInt8):List UInt8×Bool:=if fnd E (pos E key) key then ((E[pos E key]?.getD ⟨[],[]⟩).val,true) else ([],false)
def get (n:Nat)(key:List UInt8)(m:List Pr):List UInt8×Bool:=look (way n (Dg.key n key) (2*n) 0 m).2 key
end Hm
theorem QL.two [Inhabited LoT]{S:Nat→Prop}{w:World}{n f t:Nat}{v:Value}{m:List Pr}(h:QL S w n f t v m):
 (Bk w n v m∧(f=0∨Hm.single n m=true))∨∃ f' pb A c z val,f=f'+1∧v=nbr pb∧Zn S w n f' t pb m A c z val:=by
 cases f with
 |zero=>exact .inl ⟨h,.inl rfl⟩
 |succ f=>
  rcases h with ⟨h1,h2⟩|⟨h1,b,A,c,z,val,e,h2,h3,h4,h6,h5⟩
  ·exact .inl ⟨h2,.inr h1⟩
  ·exact .inr ⟨f,b,A,c,z,val,rfl,e,⟨h1,h2,h3,h4,h6,h5⟩⟩
theorem Zn.kid [Inhabited LoT]{S:Nat→Prop}{w:World}{n f t pb:Nat}{m:List Pr}{A:Option Addr}{c:Nat}{z:Int}{val:Nat→Value}(h:Zn S w n f t pb m A c z val)(d:Nat)(hd:d<16)(hh:Hm.has n t m d=true):
 ∃ g o,A=some ⟨g,o,none⟩∧Nib.rank (Hm.bm n t m) d< (Hm.digs n t m).length∧w.cell? ⟨g,o+Nib.rank (Hm.bm n t m) d,none⟩=some (val d)∧QL S w n f (t+1) (val d) (Hm.child n t d m):=by
 have hrk:Nib.rank (Hm.bm n t m) d=(Hm.lo (Hm.has n t m) d).length:=Hm.bmf_rank _ _ hd
 have hdo:=Hm.digs_old n t m d hd
 rw[hh,if_pos rfl] at hdo
 have hmem:d∈Hm.digs n t m:=by rw[hdo];simp
 have hne:(Hm.digs n t m).map val≠[]:=by
  intro e
  rw[List.map_eq_nil_iff.1 e] at hmem;cases hmem
 obtain⟨g,o,e,hr⟩:=h.rd hne
 have hg:(Hm.digs n t m)[(Hm.lo (Hm.has n t m) d).length]?=some d:=by rw[hdo];simp
 rw[← hrk] at hg
 refine⟨g,o,e,?_,?_,h.kids d hmem⟩
 ·obtain⟨hl,-⟩:=List.getElem?_eq_some_iff.1 hg;exact hl
 ·exact hr _ _ (by rw[List.getElem?_map,hg];rfl)
theorem Hm.srt_child {n t i:Nat}{m:List Pr}(h:Hm.Srt n m):Hm.Srt n (Hm.child n t i m):=List.Pairwise.filter _ h
theorem Qgg (b n:Nat)(h1:1≤n)(h2:n≤32)(m:List Pr)(key:List UInt8)(Ak:Option Addr)(ck:Nat)(w:World)(hw:Qs w)(hm:Xl w n b m)(hk:Rd w Ak (key.map b8))(hl:key.length≤64):
 Calls Tryz.prog 60 #[ptr b,.slice Ak key.length ck] w fun e w'=>∃ A' c',e= .returned (.tuple #[.slice A' (Hm.get n key m).1.length c',.bool (Hm.get n key m).2,.int .i64 0])∧Below w.heap.size w w'∧Rd w' A' ((Hm.get n key m).1.map b8):=by
 have hmw:=hm.w
 obtain⟨⟨top,htb,htop⟩,hsrt,hbnd,-⟩:=hm
 have hklen:(Dg.key n key).length=32:=Dg.sum_length n (Dg.keyIn key) h2
 have hkf:Dg.form n (Dg.key n key)=true:=Dg.form_sum _ _ h2
 have hchk:=Jq b n h1 h2 key Ak ck w hw hmw hk hl
 have hgd:Hm.get n key m=Hm.look (Hm.way n (Dg.key n key) (2*n) 0 m).2 key:=rfl
 generalize hG:Hm.get n key m=G at hgd ⊢
 generalize hK:Dg.key n key=K at hklen hchk hgd hkf
 have HL:=hid (show (K.map b8).length=32 by simp[hklen])
 have HA:=hid (Qa hw (Qa htb (Qa htop (Qa hsrt (Qa hbnd (Qa hk (Qa hmw hgd)))))))
 have HC:=hid (Qa hchk (Qa hklen hkf))
 clear hw htb htop hsrt hbnd hk hmw hchk hG hK hgd hklen hkf
 go_enter Tryz.func60,Tryz.ntmps60
 go_upto_region 4 with (first
  |(go_at_call 93
    refine HC.out.1.mono ?_
    rintro e w2 ⟨rfl,hb⟩
    have HV:=hid hb;clear hb)
  |((with_reducible refine Qw 40 (.tmp 7) (.tmp 21) _ _ (K.map b8) 32 HL.out ?_ (by kernel_rfl) (Qi _) ?_ ?_ ?_ ?_ ?_);rfl;rfl;rfl;rfl;rfl))
 refine Qe (fun w'=>Below w.heap.size w w'∧w'.rangeAt w2.heap.size 0 (K.map b8)) ⟨gro HV.out (Qb _ _),(Blk.new w2 _ _).whole⟩ ?_
 rintro w3 ⟨hb3,hr3⟩
 have k1:w3.cell? ⟨b,1,none⟩=some top:=by rw[(HA.out.2.1.grown hb3).cell];rfl
 have HB:=hid (Qa hb3 hr3)
 clear hb3 hr3
 go_wp2_with fail
 go_loopg [9,10] (2*n) (fun g s9 s10 wr=>∃ (t:Nat) (m':List Pr),g+t=2*n∧s10= .int .i64 t∧Tp (fun _=>True) wr n g t s9 m'∧Hm.Srt n m'∧Bnd m'∧G=Hm.look (Hm.way n K g t m').2 key∧Below w3.heap.size w3 wr)
 case atStart=>exact⟨0,m,by omega,rfl,(HA.out.2.2.1.grown HB.out.1),HA.out.2.2.2.1,HA.out.2.2.2.2.1,HA.out.2.2.2.2.2.2.2,Below.refl _ _⟩
 case round=>
  obtain⟨t,m',hgt,rfl,htp,hsr,hbd,hG,hbl⟩:=hrel
  have hblw:=gro HB.out.1 hbl
  rcases htp with ⟨rfl,rfl⟩|htp
  ·have hG2:G=([],false):=by rw[hG,Hm.way_single (.inr rfl)];rfl
   clear hG
   subst hG2
   go_wp2_with fail
   go_ret3
   exact⟨none,⟨0,rfl⟩,hblw,Rd.nil _ _⟩
  ·rcases htp.two with ⟨⟨pa,of,A,c,L,rfl,ha⟩,hs⟩|⟨f',pb,A,c,z,val,rfl,rfl,ha⟩
   ·rw[Hm.way_single hs] at hG
    have k32:wr.cell? ⟨pa,32,none⟩=some (.slice A m'.length c):=Xd ha.blk ha.len
    have hcf:=K1 n A Ak c ck L m' of key wr ha.rd ha.at_ (HA.out.2.2.2.2.2.1.grown hblw) hbd hsr ha.key
    unfold Hm.look at hG
    have hfi:=ZU (m:=m') (i:=pos m' key) (key:=key)
    generalize hq:fnd m' (pos m' key) key=q at hcf hG hfi
    generalize hpo:pos m' key=po at hcf hG hfi
    cases q with
    |false=>
     rw[if_neg (by decide)] at hG
     subst hG
     have HF:=hid (Qa hcf hblw)
     clear hcf hblw hbl htp ha hbd hsr hs hfi hq hpo
     go_wp2_with (
      (go_at_call 94;refine HF.out.1.mono ?_;rintro e w5 ⟨rfl,hb5⟩;have H5:=hid hb5;clear hb5))
     go_ret3
     exact⟨none,⟨0,rfl⟩,gro HF.out.2 H5.out,Rd.nil _ _⟩
    |true=>
     obtain⟨p,hp,hpk⟩:=hfi.1 rfl
     obtain⟨hpl,hpe⟩:=List.getElem?_eq_some_iff.1 hp
     rw[if_pos rfl,hp] at hG
     obtain⟨g,o,A1,c1,A2,c2,rfl,hr,-,hr2,-,-,-,-⟩:=J2 ha.rd ha.at_ po hpl
     rw[hpe] at hr hr2
     have hvl:=(hbd.2 p (List.mem_of_getElem? hp)).2
     have hG2:G=(p.val,true):=hG
     clear hG
     subst hG2
     have hce:wr.cell? ⟨g,o+po*2+1,none⟩=some (.slice A2 p.val.length c2):=hr 1 _ rfl
     have hg1:=Qo hr (by simp)
     have HF:=hid (Qa hcf (Qa hblw (Qa hr2 (Qa hvl ha))))
     clear hcf hblw hbl htp ha hbd hsr hs hfi hq hpo hr hr2 hpk hp hvl hpe
     go_wp2_with (first
      |(go_at_call 94
        refine HF.out.1.mono ?_
        rintro e w5 ⟨rfl,hb5⟩
        have k33:w5.cell? ⟨pa,32,none⟩=some (.slice (some ⟨g,o,none⟩) m'.length c):=Xd (HF.out.2.2.2.2.blk.grown hb5) HF.out.2.2.2.2.len
        have hce5:w5.cell? ⟨g,o+po*2+1,none⟩=some (.slice A2 p.val.length c2):=by rw[hb5.cell (p:=⟨g,o+po*2+1,none⟩) hg1];exact hce
        have hcl:=Yh A2 c2 p.val w5 (HF.out.2.2.1.grown hb5) (by have:=HF.out.2.2.2.1;omega)
        have H5:=hid (Qa hb5 hcl);clear hb5 hcl hce k32)
      |(go_at_call 95
        refine H5.out.2.mono ?_
        rintro e w6 ⟨A6,c6,rfl,hb6,hr6⟩
        have H6:=hid (Qa hb6 hr6);clear hb6 hr6))
     go_ret3
     exact⟨_,⟨_,rfl⟩,gro HF.out.2.1 (gro H5.out.1 H6.out.1),H6.out.2.1⟩
   ·have hdl:Dg.digit K t<16:=Dg.digit_lt _ _
    have hdg:=Xo b n h1 h2 K HC.out.2.1 HC.out.2.2 t (by omega) wr (HA.out.2.2.2.2.2.2.1.grown hblw)
    have hbm:=Hm.bm_lt n t m'
    have hhs:Nib.has (Hm.bm n t m') (Dg.digit K t)=Hm.has n t m' (Dg.digit K t):=by unfold Hm.bm;rw[Hm.bmf_has _ _ hdl]
    have hkid:=ha.kid (Dg.digit K t) hdl
    have hwy:=@Hm.way_yes n K f' t m' ha.many
    have hwn:=@Hm.way_no n K f' t m' ha.many
    have k0:=Zj ha.blk
    have hr7:wr.rangeAt w2.heap.size 0 (K.map b8):=Qm HB.out.2 hbl
    generalize hd:Dg.digit K t=d at hdl hdg hhs hkid hwy hwn
    generalize hq:Hm.bm n t m'=bm at hbm hhs hkid k0
    generalize hhv:Hm.has n t m' d=q at hhs hkid hwy hwn
    cases q with
    |false=>
     rw[hwn rfl] at hG
     have hG2:G=([],false):=hG
     clear hG
     subst hG2
     have HF:=hid (Qa hdg (Qa hblw ha))
     clear hdg hblw hbl htp ha hbd hsr hkid hwy hwn hq hhv hd
     go_wp2_with (first
      |((with_reducible refine Qf 40 (.tmp 7) w2.heap.size 0 _ 32 _ HL.out hr7 Tryz.underlying40 rfl (by kernel_rfl) ?_ ?_ ?_ ?_);rfl;rfl;rfl)
      |(go_at_call 96
        refine HF.out.1.mono ?_
        rintro e w5 ⟨rfl,hb5⟩
        have k5:w5.cell? ⟨pb,0,none⟩=some (.int .u16 bm):=by rw[hb5.cell (p:=⟨pb,0,none⟩) HF.out.2.2.blk.lt];exact k0
        have H5:=hid hb5;clear hb5 k0)
      |(go_at_call 91
        refine (XD bm d hbm hdl _).mono ?_
        rw[hhs]
        rintro e w6 ⟨rfl,rfl⟩))
     go_ret3
     exact⟨none,⟨0,rfl⟩,gro HF.out.2.1 H5.out,Rd.nil _ _⟩
    |true=>
     rw[hwy rfl] at hG
     obtain⟨g,o,rfl,hrk,hce,hht⟩:=hkid rfl
     obtain⟨r,hrr⟩:∃ r,r=Nib.rank bm d:=⟨_,rfl⟩
     rw[← hrr] at hrk hce
     obtain⟨kk,hkk⟩:∃ kk,kk=(Hm.digs n t m').length:=⟨_,rfl⟩
     have k1b:=XB ha.blk
     rw[← hkk] at hrk k1b
     have hgl:=World.block_lt_of_cell? wr _ hce
     have hd16:kk≤16:=by rw[hkk];exact Hm.digs_le (Hm.has n t m')
     have HF:=hid (Qa hdg (Qa hblw (Qa ha.blk (Qa hht (Qa (Hm.srt_child (t:=t) (i:=d) hsr) (Qa (hbd.filter _:Bnd (Hm.child n t d m')) (Qa hG (Qa hrr (Qa hbl (Qa k1b hce))))))))))
     clear hdg hblw hbl htp ha hbd hsr hwy hwn hq hhv hd hht hG hrr hkk k1b hce
     go_upto_region 21 with (first
      |((with_reducible refine Qf 40 (.tmp 7) w2.heap.size 0 _ 32 _ HL.out hr7 Tryz.underlying40 rfl (by kernel_rfl) ?_ ?_ ?_ ?_);rfl;rfl;rfl)
      |(go_at_call 96
        refine HF.out.1.mono ?_
        rintro e w5 ⟨rfl,hb5⟩
        have k5:w5.cell? ⟨pb,0,none⟩=some (.int .u16 bm):=by rw[hb5.cell (p:=⟨pb,0,none⟩) HF.out.2.2.1.lt];exact k0
        have H5:=hid hb5;clear hb5 k0)
      |(go_at_call 91
        refine (XD bm d hbm hdl _).mono ?_
        rw[hhs]
        rintro e w6 ⟨rfl,rfl⟩))
     have HS:∀ w',Below w5.heap.size w5 w'→w'.cell? ⟨pb,0,none⟩=some (.int .u16 bm)∧w'.cell? ⟨pb,1,none⟩=some (.slice (some ⟨g,o,none⟩) kk c)∧w'.cell? ⟨g,o+r,none⟩=some (val d):=fun w' hb=>by
      have hbb:=gro H5.out hb
      refine⟨?_,?_,?_⟩
      ·rw[hb.cell (p:=⟨pb,0,none⟩) (World.block_lt_of_cell? w5 _ k5)];exact k5
      ·rw[hbb.cell (p:=⟨pb,1,none⟩) HF.out.2.2.1.lt];exact HF.out.2.2.2.2.2.2.2.2.2.1
      ·rw[hbb.cell (p:=⟨g,o+r,none⟩) hgl];exact HF.out.2.2.2.2.2.2.2.2.2.2
     have hdr:Below w5.heap.size w5 w5.drew:=(Below.refl _ _).drew
     have HT:=hid (Qa HS (Qa hdr k5))
     clear HS hdr k5
     go_region_held3 (fun w'=>w'.cell? ⟨pb,0,none⟩=some (.int .u16 bm)∧w'.cell? ⟨pb,1,none⟩=some (.slice (some ⟨g,o,none⟩) kk c)∧w'.cell? ⟨g,o+r,none⟩=some (val d))
      (first|exact HT.out.1 _ H7.out|exact HT.out.1 _ HT.out.2.1)
      (
       (go_at_call 90
        refine (XP bm d hbm hdl _).mono ?_
        rw[← HF.out.2.2.2.2.2.2.2.1]
        rintro e w7 ⟨rfl,hb7⟩
        have H7:=hid (gro HT.out.2.1 hb7);clear hb7))
     go_wp2_with fail
     go_roundg f'
     case measure=>omega
     case rel=>exact⟨t+1,Hm.child n t d m',by omega,by go_num,.inr (HF.out.2.2.2.1.grown (gro H5.out H7.out)),HF.out.2.2.2.2.1,HF.out.2.2.2.2.2.1,HF.out.2.2.2.2.2.2.1,gro HF.out.2.2.2.2.2.2.2.2.1 (gro H5.out H7.out)⟩
theorem VR:Builtin.zeroCells (dg (List.replicate 32 0):Value).cells 1=(List.replicate 32 (b8 0):List Value).toArray:=by kernel_rfl
theorem W6 (B n i:Nat)(v:Value)(xs:List Value)(w:World)(h:w.ownsRow B 40 32 v n xs)(hx1:∀ u∈xs,u.oneCell'=true)(hn:n<1048576)(hi:i<n)(hB:B≤w.heap.size):
 Calls Tryz.prog 92 #[v,.int .i64 i,.int .i64 ((i:Int)+1)] w fun e w'=>∃ g c,v= .slice (some ⟨g,0,none⟩) n c∧e= .returned (.slice (some ⟨g,0,none⟩) (n-1) c)∧Rd w' (some ⟨g,0,none⟩) (xs.take (i*32)++xs.drop ((i+1)*32))∧Qu (fun k=>v.ownBlock=some k) w w'∧Tyd w' 40 (some ⟨g,0,none⟩):=by
 obtain⟨g,c,cur,rfl,hm⟩:=XS h (by omega)
 have hmm:=hm.hm
 have hcn:=hm.hc
 have hxl:=hm.xl
 unfold maxLen at hmm
 obtain⟨X3,s1⟩:=Ze (P:=Tryz.prog) (T:=105) Tryz.underlying105 Xy (some ⟨g,0,none⟩) n c i (i+1) n (by omega) (by omega) (by omega) w
 rw[show ((i+1:Nat):Int)=(i:Int)+1 from rfl] at s1
 have s2:=Q7 (P:=Tryz.prog) (T:=105) Tryz.underlying105 Xy g 0 n c i (by omega)
 obtain⟨X,s3,hX⟩:∃ X,(∀ w,(Instr.slice 105 (.slice (some ⟨g,0,none⟩) n c) (some (.int .i64 ((i:Int)+1))) none none).run Tryz.prog w= .ok (.slice X (n-(i+1)) (c-(i+1))) w)∧∃ a:Addr,X=some a∧(i+1<n→a=⟨g,(i+1)*32,none⟩):=by
  rcases Nat.lt_or_ge (i+1) c with h1|h1
  ·have:=Qz (P:=Tryz.prog) (T:=105) Tryz.underlying105 Xy g 0 n c (i+1) (by omega) h1
   simp only[Nat.zero_add] at this
   exact⟨_,this,_,rfl,fun _=>rfl⟩
  ·have:=Xp (P:=Tryz.prog) (T:=105) Tryz.underlying105 Xy (some ⟨g,0,none⟩) n c (i+1) (by omega)
   rw[if_pos (by omega)] at this
   exact⟨_,this,_,rfl,fun h=>by omega⟩
 have s4:=XC (P:=Tryz.prog) (T:=105) Tryz.underlying105 Xy g 0 (n-1) c (n-1) n (by omega) (by omega) (by omega)
 rw[show n-(n-1)=1 by omega,Nat.zero_add] at s4
 obtain⟨N1,hN1⟩:∃ k,k=n-1:=⟨_,rfl⟩
 obtain⟨LK,hLK⟩:∃ k,k=n-(i+1):=⟨_,rfl⟩
 obtain⟨CK,hCK⟩:∃ k,k=c-(i+1):=⟨_,rfl⟩
 obtain⟨CZ,hCZ⟩:∃ k,k=c-N1:=⟨_,rfl⟩
 obtain⟨oZ,hoZ⟩:∃ k,k=N1*32:=⟨_,rfl⟩
 obtain⟨oB,hoB⟩:∃ k,k=i*32:=⟨_,rfl⟩
 obtain⟨oA,hoA⟩:∃ k,k=(i+1)*32:=⟨_,rfl⟩
 rw[← hLK,←hCK] at s3
 rw[← hN1,←hCZ,←hoZ] at s4
 rw[← hoA] at hX
 rw[← hoB,←hoA,←hN1]
 have hiz:i+LK=N1:=by omega
 have hD:(xs.drop oA).length=LK*32:=by rw[List.length_drop];omega
 have hap:∀ (w':World) (ty:TypeId),Blk w' g 40 cur→(Builtin.append_ #[105,105] ty #[.slice (some ⟨g,0,none⟩) i c,.slice X LK CK]).run Tryz.prog w'= .ok (.slice (some ⟨g,0,none⟩) N1 c) (w'.setCells g oB (xs.drop oA)):=by
  intro w' ty hb
  obtain⟨a,rfl,ha⟩:=hX
  have:=Zf (P:=Tryz.prog) (T:=105) Tryz.underlying105 Xy ty g i c LK CK (some a) (xs.drop oA) w' (by omega) hD ⟨a,rfl,fun j v hj=>?_⟩ (hb.there _ _ (by have:=hm.len;rw[hD];omega)) (fun v hv=>hx1 v (List.mem_of_mem_drop hv))
  ·rw[hiz,←hoB] at this
   exact this
  ·have hjl:j< (xs.drop oA).length:=(List.getElem?_eq_some_iff.1 hj).1
   rw[ha (by rw[hD] at hjl;omega),Addr.add_mid]
   rw[List.getElem?_drop,←hm.hx] at hj
   have:=hb.takes _ (oA+j) v hj
   rwa [Nat.zero_add] at this
 obtain⟨i0,hi0,hz0,hzs,hzb⟩:=info_parts Jp
 have HI:=hid (Qa hi0 hz0)
 have HO:=hid (Qa hm (Qa hap (Qa hD (Qa hxl (Qa hN1 (Qa hoZ (Qa hoB (Qa hoA hLK))))))))
 clear hm hap hD hxl hN1 hLK hCK hCZ hoZ hoB hoA hX hiz h hi0 hz0 hzs hzb hx1
 have j2:((i:Int) == (i:Int)+1)=false:=by rw[beq_eq_false_iff_ne];omega
 go_enter Tryz.func92,Tryz.ntmps92
 go_upto_region 5 with fail
 refine Qq 6 (by kernel_rfl) (by kernel_rfl) ?_
 dsimp only[List.take_succ_cons,List.take_zero]
 repeat (go_big_quiet_step (fail))
 refine wpQuiet_nil ?_
 rintro _ ⟨s,rfl⟩
 have hb0:=HO.out.1.blk.grown s.below
 have ha0:=HO.out.2.1 s.v
 have hbA:=hb0.setCells (xs.drop oA) oB _ (by have:=HO.out;have:=this.1.len;omega)
 have hlA:(splice cur oB (xs.drop oA)).length=c*32:=by
  rw[Q2 _ _ _ (by have:=HO.out;have:=this.1.len;omega)];exact HO.out.1.len
 have hrz:=fun ty=>ha0 ty hb0
 have htZ:(s.v.setCells g oB (xs.drop oA)).there g oZ (List.replicate 32 (b8 0):List Value).length:=hbA.there _ _ (by rw[hlA];show _+32≤_;have:=HO.out;omega)
 have hbZ:=hbA.setCells (List.replicate 32 (b8 0):List Value) oZ _ (by rw[hlA];show _+32≤_;have:=HO.out;omega)
 have hsl:=s.below
 have HC:=hid (Qa htZ (Qa hbZ hsl))
 clear hb0 ha0 hbA hlA htZ hbZ hsl
 simp only[List.drop_succ_cons,List.drop_zero]
 go_wp2_with (first
  |(at_builtin;refine Lib.wpList_append_run _ rfl _ _ _ _ rfl _ _ rfl rfl _ _ (hrz _) ?_)
  |((with_reducible refine Yk ?_ (.tmp 31) 105 40 i0 (dg (List.replicate 32 0)) ?_ Tryz.underlying105 HI.out.1 HI.out.2 g oZ CZ (List.replicate 32 (b8 0)) VR ?_ HC.out.1 ?_ ?_);rfl;rfl;rfl;(intro u hu;exact Qi (List.replicate 32 0) u (by simpa using hu))))
 go_ret
 refine⟨g,c,rfl,rfl,?_,Jd HC.out.2.2,HC.out.2.1.tyd⟩
 have e1:=VB cur (xs.take oB) (xs.drop oA) (List.replicate 32 (b8 0):List Value) oB oZ (by rw[← HO.out.1.hx,List.take_take];congr 1;have:=HO.out;omega) (by have:=HO.out;rw[List.length_take];omega) (by have:=HO.out;omega) (by show _+32≤_;have:=HO.out;have:=this.1.len;omega)
 rw[← e1]
 exact Rd.of _ (HC.out.2.1.takes _)
namespace Hm
theorem digs_pos {n t:Nat}{m:List Pr}(h:single n m=false):0< (digs n t m).length:=by
 cases m with
 |nil=>simp[single] at h
 |cons p q=>
  have:dig n t p∈digs n t (p :: q):=mem_digs.2 ⟨p,by simp,rfl⟩
  exact List.length_pos_of_mem this
def Fit (n:Nat)(s:Nat×List (List UInt8)):Prop:=s.1<65536∧s.2.length≤16∧∀ x∈s.2,x.length=32∧Dg.form n x=true
theorem kids_fit (n:Nat)(h2:n≤32)(f t:Nat)(m:List Pr):Fit n (bm n t m,(digs n t m).map fun i=>node n f (t+1) (child n t i m)):=by
 refine⟨bm_lt n t m,by rw[List.length_map];exact digs_le (has n t m),fun x hx=>?_⟩
 obtain⟨i,_,rfl⟩:=List.mem_map.1 hx
 exact⟨node_len n h2 _ _ _,Ks n h2 _ _ _⟩
theorem way_fit (n:Nat)(h2:n≤32)(d:List UInt8):∀ (f t:Nat) (m:List Pr),(way n d f t m).1.length≤f∧(∀ s∈(way n d f t m).1,Fit n s)∧∀ p∈(way n d f t m).2,p∈m
 |0,t,m=>⟨Nat.le_refl _,fun s hs=>(nomatch hs),fun p hp=>hp⟩
 |f+1,t,m=>by
  cases h:single n m with
  |true=>rw[way_single (.inr h)];exact⟨Nat.zero_le _,fun s hs=>(nomatch hs),fun p hp=>hp⟩
  |false=>
   cases hh:has n t m (Dg.digit d t) with
   |false=>
    rw[way_no h hh]
    refine⟨by simp,fun s hs=>?_,fun p hp=>(nomatch hp)⟩
    rw[List.mem_singleton] at hs;subst hs;exact kids_fit n h2 f t m
   |true=>
    rw[way_yes h hh]
    obtain⟨i1,i2,i3⟩:=way_fit n h2 d f (t+1) (child n t (Dg.digit d t) m)
    refine⟨by simp;omega,fun s hs=>?_,fun p hp=>(mem_child.1 (i3 p hp)).1⟩
    rcases List.mem_cons.1 hs with rfl|hs
    ·exact kids_fit n h2 f t m
    ·exact i2 s hs
end Hm
def Qer (x:List Value):Option Nat:=(x[1]?.getD (Value.bool false)).ownBlock
def XY (w:World)(B:Nat)(x:List Value)(s:Nat×List (List UInt8)):Prop:=∃ A c,x=[.int .u16 s.1,.slice A s.2.length c]∧w.ownsRow B 40 32 (.slice A s.2.length c) s.2.length (dgs s.2).flatten
structure QV (w:World) (B:Nat) (L:List (List Value)) (sts:List (Nat×List (List UInt8))):Prop where
 len:L.length=sts.length
 at_:∀ (i:Nat) (x:List Value) (s:Nat×List (List UInt8)),L[i]?=some x→sts[i]?=some s→XY w B x s
 apart:∀ (i j:Nat) (x y:List Value) (k:Nat),i<j→L[i]?=some x→L[j]?=some y→Qer x=some k→Qer y≠some k
theorem QV.nil (w:World)(B:Nat):QV w B [] []:=⟨rfl,fun i x s h=>by simp at h,fun i j x y k _ h=>by simp at h⟩
theorem XY.grown {w w':World}{B:Nat}{x:List Value}{s:Nat×List (List UInt8)}(h:XY w B x s)(hb:Below w.heap.size w w'):XY w' B x s:=by
 obtain⟨A,c,e,h⟩:=h
 exact⟨A,c,e,Qg h hb⟩
theorem XY.but {w w':World}{B:Nat}{x:List Value}{s:Nat×List (List UInt8)}(h:XY w B x s)(hb:But 151 w w'):XY w' B x s:=by
 obtain⟨A,c,e,h⟩:=h
 exact⟨A,c,e,QQ.own hb h (by decide)⟩
theorem XY.low {w:World}{B B':Nat}{x:List Value}{s:Nat×List (List UInt8)}(h:XY w B x s)(hb:B'≤B):XY w B' x s:=by
 obtain⟨A,c,e,h⟩:=h
 exact⟨A,c,e,X7 h hb⟩
theorem XY.row {w:World}{B:Nat}{x:List Value}{s:Nat×List (List UInt8)}(h:XY w B x s){k:Nat}(hk:Qer x=some k):B≤k∧k<w.heap.size:=by
 obtain⟨A,c,rfl,h⟩:=h
 exact h.lt k hk
theorem QV.grown {w w':World}{B:Nat}{L:List (List Value)}{sts:List (Nat×List (List UInt8))}(h:QV w B L sts)(hb:Below w.heap.size w w'):QV w' B L sts:=⟨h.len,fun i x s h1 h2=>(h.at_ i x s h1 h2).grown hb,h.apart⟩
theorem QV.but {w w':World}{B:Nat}{L:List (List Value)}{sts:List (Nat×List (List UInt8))}(h:QV w B L sts)(hb:But 151 w w'):QV w' B L sts:=⟨h.len,fun i x s h1 h2=>(h.at_ i x s h1 h2).but hb,h.apart⟩
theorem QV.low {w:World}{B B':Nat}{L:List (List Value)}{sts:List (Nat×List (List UInt8))}(h:QV w B L sts)(hb:B'≤B):QV w B' L sts:=⟨h.len,fun i x s h1 h2=>(h.at_ i x s h1 h2).low hb,h.apart⟩
theorem QV.two {w:World}{B:Nat}{L:List (List Value)}{sts:List (Nat×List (List UInt8))}(h:QV w B L sts):∀ x∈L,x.length=2:=by
 intro x hx
 obtain⟨i,hi,rfl⟩:=List.getElem_of_mem hx
 have hm:i<sts.length:=by have:=h.len;omega
 obtain⟨A,c,e,_⟩:=h.at_ i L[i] sts[i] (by simp[hi]) (by simp[hm])
 rw[e];rfl
theorem QV.snoc {w0 w:World}{B B':Nat}{L:List (List Value)}{sts:List (Nat×List (List UInt8))}{y:List Value}{s:Nat×List (List UInt8)}(h0:QV w0 B L sts)(h:QV w B L sts)(hy:XY w B' y s)(h1:w0.heap.size≤B')(h2:B≤B'):QV w B (L++[y]) (sts++[s]):=by
 have hl:=h.len
 refine⟨by simp[hl],fun i x q hx hq=>?_,fun i j x z k hij hx hz hk=>?_⟩
 ·by_cases hi:i<L.length
  ·rw[List.getElem?_append_left hi] at hx
   rw[List.getElem?_append_left (by omega)] at hq
   exact h.at_ i x q hx hq
  ·rw[List.getElem?_append_right (by omega)] at hx
   rw[List.getElem?_append_right (by omega),←hl] at hq
   obtain h0|⟨r,hr⟩:i-L.length=0∨∃ r,i-L.length=r+1:=by
    cases i-L.length with
    |zero=>exact .inl rfl
    |succ r=>exact .inr ⟨r,rfl⟩
   ·rw[h0] at hx hq
    simp at hx hq;subst hx hq;exact hy.low h2
   ·rw[hr] at hx;simp at hx
 ·by_cases hj:j<L.length
  ·rw[List.getElem?_append_left hj] at hz
   rw[List.getElem?_append_left (by omega)] at hx
   exact h.apart i j x z k hij hx hz hk
  ·have hjl:j<L.length+1:=by have:=(List.getElem?_eq_some_iff.1 hz).1;simpa using this
   have hj2:j=L.length:=by omega
   rw[hj2,List.getElem?_append_right (Nat.le_refl _),Nat.sub_self] at hz
   simp at hz;subst hz
   rw[List.getElem?_append_left (by omega)] at hx
   have hs:=(h0.at_ i x sts[i] hx (by rw[List.getElem?_eq_getElem (by omega)])).row hk
   intro e
   have:=(hy.row e).1
   omega
structure Wk (w0 wr:World) (bm:Nat) (ks:List (List UInt8)) (j:Nat) (A:Option Addr) (c:Nat):Prop where
 sb:Blk wr w0.heap.size 151 [.int .u16 bm,.slice A j c]
 ow:wr.ownsRow (w0.heap.size+1) 40 32 (.slice A j c) j (dgs (ks.take j)).flatten
 bl:Below w0.heap.size w0 wr
 sz:w0.heap.size+1≤wr.heap.size
theorem Wk.start (w:World)(bm:Nat)(ks:List (List UInt8)):Wk w (w.alloc (.cells #[.int .u16 bm,.slice none 0 0] 151)) bm ks 0 none 0:=
 ⟨Blk.new w _ [.int .u16 bm,.slice none 0 0],World.ownsRow_nil _ _ _ _,Qb _ _,by simp⟩
theorem Wk.grown {w0 wr w':World}{bm:Nat}{ks:List (List UInt8)}{j:Nat}{A:Option Addr}{c:Nat}(h:Wk w0 wr bm ks j A c)(hb:Below wr.heap.size wr w'):Wk w0 w' bm ks j A c:=
 ⟨h.sb.grown hb,Qg h.ow hb,gro h.bl hb,Nat.le_trans h.sz hb.size⟩
theorem Wk.step {w0 wr w8 w9:World}{bm:Nat}{ks:List (List UInt8)}{j:Nat}{A:Option Addr}{c:Nat}(h:Wk w0 wr bm ks j A c)(h8:Below wr.heap.size wr w8)(hj:j<ks.length){D:List UInt8}(hD:D=ks[j]){A9:Option Addr}{c9:Nat}
 (hn1:w9.ownsRow (w0.heap.size+1) 40 32 (.slice A9 (j+1) c9) (j+1) ((dgs (ks.take j)).flatten++D.map b8)) (hn2:w8.grownBy w9 (Value.slice A j c).ownBlock):
 (w9.cell? ⟨w0.heap.size,1,none⟩=some (.slice A j c)∧w9.frozen? ⟨w0.heap.size,1,none⟩=false)∧Wk w0 (w9.setCell ⟨w0.heap.size,1,none⟩ (.slice A9 (j+1) c9)) bm ks (j+1) A9 c9:=by
 have g:=h.grown h8
 have hbut:=But.append g.ow hn2
 have hsb:=QQ.blk hbut g.sb (by decide)
 have hne:=Xz hn1 hsb (by decide)
 have hbl:Below w0.heap.size w0 w9:=(Qn hn2).step g.bl g.bl.size (fun k hk e=>by have:=(g.ow.lt k e).1;omega)
 refine⟨⟨by rw[hsb.cell];rfl,hsb.frozen 1⟩,hsb.set_ 1 _,?_,hbl.setCell (by show w0.heap.size≤w0.heap.size;omega) _,?_⟩
 ·have:=XM (S:=(· =w0.heap.size)) hn1 ((Qu.refl _ _).set1 1 (.slice A9 (j+1) c9)) (fun k hk e=>hne (by rw[hk,e]))
  rw[hD,←Ui hj] at this
  exact this
 ·rw[show (w9.setCell ⟨w0.heap.size,1,none⟩ (.slice A9 (j+1) c9)).heap.size=w9.heap.size from by simp];exact Nat.le_trans g.sz hn2.size
theorem Zn.sums [Inhabited LoT]{S:Nat→Prop}{w:World}{n f t pb:Nat}{m:List Pr}{A:Option Addr}{c:Nat}{z:Int}{val:Nat→Value}(h2:n≤32)(h:Zn S w n f t pb m A c z val):
 ∃ g o,A=some ⟨g,o,none⟩∧∀ j,j< (Hm.digs n t m).length→∃ v d,w.cell? ⟨g,o+j,none⟩=some v∧((Hm.digs n t m).map fun i=>Hm.node n f (t+1) (Hm.child n t i m))[j]?=some d∧Uf w v d:=by
 have hne:(Hm.digs n t m).map val≠[]:=by
  intro e
  have:=Hm.digs_pos (t:=t) h.many
  rw[List.map_eq_nil_iff.1 e] at this
  simp at this
 obtain⟨g,o,e,hr⟩:=h.rd hne
 refine⟨g,o,e,fun j hj=>⟨val (Hm.digs n t m)[j],_,hr j _ (by rw[List.getElem?_map,List.getElem?_eq_getElem hj];rfl),by rw[List.getElem?_map,List.getElem?_eq_getElem hj];rfl,?_⟩⟩
 exact QL.sumAt h2 (h.kids _ (List.getElem_mem hj))
theorem Qcu:(Tryz.prog.info? 151).map (fun i=>(i.zero,i.size,i.bytes))=some (some (.agg #[.int .u16 0,.slice none 0 0]),2,32):=by kernel_rfl
theorem Qcv (parts:List (Nat×Value)):Tryz.prog.built 151 parts=Instr.fill ((#[(0,1),(1,1)]:Array (Nat×Nat))[·]?) ([Value.int .u16 0,Value.slice none 0 0]).toArray parts:=by kernel_rfl
theorem W7 (bm:Nat):Tryz.prog.built 151 [(0,.int .u16 bm)]=some ([Value.int .u16 bm,.slice none 0 0]).toArray:=by
 rw[Qcv,QE _ _ 0 _ _ 0 1 rfl [.int .u16 bm] rfl rfl (by simp)]
 rfl
structure Qgh (w:World) (E:List (Nat×List (List UInt8))×List Pr) (e:Ending) (w':World):Prop where
 ex:∃ As cs Ap cp Ls Lp,e= .returned (.tuple #[.slice As E.1.length cs,.slice Ap E.2.length cp,.int .i64 0])∧Below w.heap.size w w'∧w'.ownsRow w.heap.size 151 2 (.slice As E.1.length cs) E.1.length Ls.flatten∧QV w' w.heap.size Ls E.1∧Rd w' Ap Lp.flatten∧Ql w' Lp E.2∧Tyd w' 166 Ap
@[go_sem] def Qh0:Op:= .load 105 (.tmp 63)
attribute [-go_sem] Instr.build Instr.buildSlice in
theorem Qgi (b n:Nat)(h1:1≤n)(h2:n≤32)(m:List Pr)(key:List UInt8)(Ak:Option Addr)(ck:Nat)(w:World)(hw:Qs w)(hm:Xl w n b m)(hk:Rd w Ak (key.map b8))(hl:key.length≤64):
 Calls Tryz.prog 86 #[ptr b,.slice Ak key.length ck] w (Qgh w (Hm.way n (Dg.key n key) (2*n) 0 m)):=by
 have hmw:=hm.w
 obtain⟨⟨top,htb,htop⟩,hsrt,hbnd,-⟩:=hm
 have hklen:(Dg.key n key).length=32:=Dg.sum_length n (Dg.keyIn key) h2
 have hkf:Dg.form n (Dg.key n key)=true:=Dg.form_sum _ _ h2
 have hchk:=Jq b n h1 h2 key Ak ck w hw hmw hk hl
 generalize hK:Dg.key n key=K at hklen hchk hkf ⊢
 obtain⟨E,hE⟩:∃ E,E=Hm.way n K (2*n) 0 m:=⟨_,rfl⟩
 rw[← hE]
 have HL:=hid (show (K.map b8).length=32 by simp[hklen])
 have HA:=hid (Qa hw (Qa htb (Qa htop (Qa hsrt (Qa hbnd (Qa hk (Qa hmw hE)))))))
 have HC:=hid (Qa hchk (Qa hklen hkf))
 clear hw htb htop hsrt hbnd hk hmw hchk hK hE hklen hkf
 go_enter Tryz.func86,Tryz.ntmps86
 go_upto_region 5 with (first
  |(go_at_call 93
    refine HC.out.1.mono ?_
    rintro e w2 ⟨rfl,hb⟩
    have HV:=hid hb;clear hb)
  |((with_reducible refine Qw 40 (.tmp 7) (.tmp 22) _ _ (K.map b8) 32 HL.out ?_ (by kernel_rfl) (Qi _) ?_ ?_ ?_ ?_ ?_);rfl;rfl;rfl;rfl;rfl))
 refine Qe (fun w'=>Below w.heap.size w w'∧w'.rangeAt w2.heap.size 0 (K.map b8)) ⟨gro HV.out (Qb _ _),(Blk.new w2 _ _).whole⟩ ?_
 rintro w3 ⟨hb3,hr3⟩
 have k1:w3.cell? ⟨b,1,none⟩=some top:=by rw[(HA.out.2.1.grown hb3).cell];rfl
 have HB:=hid (Qa hb3 (Qa hr3 (Qa (HA.out.1.below hb3) (HA.out.2.2.2.2.2.2.1.grown hb3))))
 clear hb3 hr3
 go_wp2_with fail
 go_loopg [9,10] (2*n) (fun g s9 s10 wr=>∃ (t:Nat) (m':List Pr) (sts:List (Nat×List (List UInt8))) (L:List (List Value)) (As:Option Addr) (cs:Nat),g+t=2*n∧s9= .slice As t cs∧sts.length=t∧Tp (fun _=>True) w3 n g t s10 m'∧Hm.Srt n m'∧Bnd m'∧E=(sts++(Hm.way n K g t m').1,(Hm.way n K g t m').2)∧(m'=[]→sts=[])∧wr.ownsRow w3.heap.size 151 2 (.slice As t cs) t L.flatten∧QV wr w3.heap.size L sts∧Below w3.heap.size w3 wr)
 case atStart=>exact⟨0,m,[],[],none,0,by omega,rfl,rfl,(HA.out.2.2.1.grown HB.out.1),HA.out.2.2.2.1,HA.out.2.2.2.2.1,HA.out.2.2.2.2.2.2.2,fun _=>rfl,World.ownsRow_nil _ _ _ _,QV.nil _ _,Below.refl _ _⟩
 case round=>
  obtain⟨t,m',sts,L,As,cs,hgt,rfl,hst,htp,hsr,hbd,hE,hem,how,hsa,hbl⟩:=hrel
  have hblw:Below w.heap.size w wr:=HB.out.1.trans (hbl.mono HB.out.1.size)
  rcases htp with ⟨rfl,rfl⟩|htp
  ·have hE2:E=([],[]):=by rw[hE,hem rfl,Hm.way_single (.inr rfl)];rfl
   clear hE
   subst hE2
   clear how
   go_wp2_with fail
   go_ret3
   exact⟨⟨none,0,none,0,[],[],rfl,hblw,World.ownsRow_nil _ _ _ _,QV.nil _ _,Rd.nil _ _,⟨rfl,fun i x p h=>by simp at h⟩,Tyd.none _ _⟩⟩
  ·rcases htp.two with ⟨⟨pa,of,A,c,Lm,rfl,ha⟩,hs⟩|⟨f',pb,A,c,z,val,rfl,rfl,ha⟩
   ·rw[Hm.way_single hs,List.append_nil] at hE
    subst hE
    have k32:wr.cell? ⟨pa,32,none⟩=some (.slice A m'.length c):=Xd (ha.blk.below hbl ha.blk.lt) ha.len
    obtain⟨mm,hmm⟩:∃ mm,mm=m'.length:=⟨_,rfl⟩
    rw[← hmm] at k32
    have hcp:=W5 A mm c Lm m' wr hmm.symm (ha.rd.grown hbl) (ha.at_.grown hbl) hbd.2 (by rw[hmm];exact hbd.1)
    have HF:=hid (Qa hcp (Qa hblw (Qa how (Qa hsa (Qa hst hmm)))))
    clear hcp hblw hbl htp ha hbd hsr hs how hsa hst hmm hem
    go_wp2_with (
     (go_at_call 137;refine HF.out.1.mono ?_;rintro e w5 ⟨A5,c5,L5,rfl,hb5,hr5,hp5,-,ht5⟩;have H5:=hid (Qa hb5 (Qa hr5 (Qa hp5 ht5)));clear hb5 hr5 hp5 ht5))
    go_ret3
    refine⟨⟨As,cs,A5,c5,L,L5,?_,HF.out.2.1.trans (H5.out.1.mono HF.out.2.1.size),?_,?_,H5.out.2.1,H5.out.2.2⟩⟩
    ·rw[HF.out.2.2.2.2.1,←HF.out.2.2.2.2.2];rfl
    ·rw[HF.out.2.2.2.2.1];exact X7 (Qg HF.out.2.2.1 H5.out.1) HB.out.1.size
    ·exact (HF.out.2.2.2.1.grown H5.out.1).low HB.out.1.size
   ·have hdl:Dg.digit K t<16:=Dg.digit_lt _ _
    have hdg:=Xo b n h1 h2 K HC.out.2.1 HC.out.2.2 t (by omega) wr (HB.out.2.2.2.grown hbl)
    have hbm:=Hm.bm_lt n t m'
    have hhs:Nib.has (Hm.bm n t m') (Dg.digit K t)=Hm.has n t m' (Dg.digit K t):=by unfold Hm.bm;rw[Hm.bmf_has _ _ hdl]
    have hkid:=ha.kid (Dg.digit K t) hdl
    have hwy:=@Hm.way_yes n K f' t m' ha.many
    have hwn:=@Hm.way_no n K f' t m' ha.many
    obtain⟨g,o,rfl,hsum⟩:=ha.sums h2
    obtain⟨kk,hkk⟩:∃ kk,kk=(Hm.digs n t m').length:=⟨_,rfl⟩
    have hd16:kk≤16:=by rw[hkk];exact Hm.digs_le (Hm.has n t m')
    obtain⟨ks,hks⟩:∃ ks,ks=(Hm.digs n t m').map fun i=>Hm.node n f' (t+1) (Hm.child n t i m'):=⟨_,rfl⟩
    have hkl:ks.length=kk:=by rw[hks,List.length_map,hkk]
    have hblk:=ha.blk
    rw[← hkk] at hsum hkid hblk
    rw[← hks] at hsum hwy hwn
    have hr7:wr.rangeAt w2.heap.size 0 (K.map b8):=Qh HB.out.2.1 hbl (Qo HB.out.2.1 (by rw[HL.out];decide))
    generalize hd:Dg.digit K t=d at hdl hdg hhs hkid hwy hwn
    generalize hq:Hm.bm n t m'=bm at hbm hhs hkid hblk hwy hwn
    generalize hhv:Hm.has n t m' d=q at hhs hkid hwy hwn
    have k0:=Zj (hblk.below hbl hblk.lt)
    have HF:=hid (Qa hdg (Qa hblw (Qa hblk (Qa hsum (Qa (Hm.srt_child (t:=t) (i:=d) hsr) (Qa (hbd.filter _:Bnd (Hm.child n t d m')) hE))))))
    have HG:=hid (Qa how (Qa hsa (Qa hbl (Qa hst hkl))))
    have HK:=hid (Qa hkid (Qa hwy hwn))
    have HHS:=hid hhs
    clear hdg hblw hbl htp ha hbd hsr hkid hwy hwn hq hhv hd how hsa hst hem hblk hkl hks hsum hE hkk hhs
    have hzb:=W7 bm
    have hoc0:∀ v∈[Value.int .u16 bm,.slice none 0 0],v.oneCell'=true:=fun v hv=>by
     simp only[List.mem_cons,List.not_mem_nil,or_false] at hv
     rcases hv with rfl|rfl<;>rfl
    go_upto_region 15 with (first
     |((with_reducible refine Qf 40 (.tmp 7) w2.heap.size 0 _ 32 _ HL.out hr7 Tryz.underlying40 rfl (by kernel_rfl) ?_ ?_ ?_ ?_);rfl;rfl;rfl)
     |(go_at_call 96
       refine HF.out.1.mono ?_
       rintro e w5 ⟨rfl,hb5⟩
       have k5:w5.cell? ⟨pb,0,none⟩=some (.int .u16 bm):=by rw[hb5.cell (p:=⟨pb,0,none⟩) (World.block_lt_of_cell? wr _ k0)];exact k0
       have H5:=hid hb5;clear hb5 k0))
    go_upto_region 16 with (first
     |((with_reducible refine Za 151 #[(0,.tmp 52)] [.int .u16 bm,.slice none 0 0] ?_ ?_ ?_ ?_);rfl;rfl;exact hzb)
     |((with_reducible refine Qw 151 (.tmp 14) (.tmp 53) _ _ [.int .u16 bm,.slice none 0 0] 2 rfl ?_ (by kernel_rfl) hoc0 ?_ ?_ ?_ ?_ ?_);rfl;rfl;rfl;rfl;rfl))
    clear hzb hoc0
    refine Qe (fun w'=>Wk w5 w' bm ks 0 none 0) (Wk.start w5 bm ks) ?_
    rintro w6 hwk
    have h35:Below w3.heap.size w3 w5:=gro HG.out.2.2.1 H5.out
    have h36:Below w3.heap.size w3 w6:=h35.trans (hwk.bl.mono h35.size)
    have k6:w6.cell? ⟨pb,1,none⟩=some (.slice (some ⟨g,o,none⟩) kk c):=XB (HF.out.2.2.1.below h36 HF.out.2.2.1.lt)
    have H6:=hid (Qa hwk h35)
    clear hwk h36 k5
    go_upto_region 17 with fail
    go_loopg [59] kk (fun g' x wr=>∃ (j:Nat) (A':Option Addr) (c':Nat),j+g'=kk∧x= .int .i64 j∧Wk w5 wr bm ks j A' c')
    case atStart=>exact⟨0,none,0,by omega,rfl,H6.out.1⟩
    case round=>
     obtain⟨j,A',c',hj,rfl,hwk⟩:=hrel
     have h3i:Below w3.heap.size w3 wr:=H6.out.2.trans (hwk.bl.mono H6.out.2.size)
     by_cases hlt:j<kk
     ·obtain⟨v,D,hv,hD,hsm⟩:=HF.out.2.2.2.1 j hlt
      have hjk:j<ks.length:=by rw[HG.out.2.2.2.2];exact hlt
      have hDe:D=ks[j]:=by rw[List.getElem?_eq_getElem hjk] at hD;exact (Option.some.inj hD).symm
      have hvc:wr.cell? ⟨g,o+j,none⟩=some v:=by rw[h3i.cell (p:=⟨g,o+j,none⟩) (World.block_lt_of_cell? w3 _ hv)];exact hv
      have kq:wr.cell? ⟨w5.heap.size,1,none⟩=some (.slice A' j c'):=by rw[hwk.sb.cell];rfl
      have hDm:(D.map b8).length=32:=by rw[List.length_map];exact hsm.1
      have hme:=Ul ⟨hsm.1,by
       rcases hsm.2 with ⟨q1,q2,q3,q4,q5,q6,q7⟩|⟨q1,q2,q3,q4,q5,q6⟩
       ·exact .inl ⟨q1,q2,q3,q4,q5,q6.below h3i q6.lt,q7⟩
       ·exact .inr ⟨q1,q2,q3,q4,q5,q6.below h3i q6.lt⟩⟩
      have hdr:Below wr.heap.size wr wr.drew:=(Below.refl _ _).drew
      have hbsD:=Ky (P:=Tryz.prog) 105 40 (D.map b8) 32 (by decide) hDm (by decide) Tryz.underlying105 (by kernel_rfl)
      have h63:j+1≤maxLen:=by simp only[maxLen];omega
      have hby:(j+1)*32≤140737488355328:=by omega
      have HT:=hid (Qa hdr (Qa hwk hDe))
      have HSM:=hid hme
      clear hdr hwk hDe hsm hv hD h3i hme
      rcases HSM.out with ⟨nb,rfl,hme⟩|⟨nb,rfl,hme⟩
      all_goals
       have HM:=hid hme
       clear hme HSM
       go_upto_region 19 with fail
       rw[show Op.load 105 (.tmp 63)=Qh0 from rfl]
       go_region_held3 (fun _=>True) (exact True.intro)
        (first
          |(refine XK (.tmp 64) (.tmp 67) 105 Tryz.underlying105 Jp rfl (by decide) (HT.out.2.1.grown (gro H7.out (Qb w7 (.cells (D.map b8).toArray 40)))).ow 1 1 (news:=D.map b8) (by rw[hDm]) (Rd.of _ (Blk.new w7 _ _).whole) (Qi D) h63 hby (HT.out.2.1.grown (gro H7.out (Qb w7 (.cells (D.map b8).toArray 40)))).sz rfl rfl rfl rfl ?_
            intro v9 w9 hn1 hn2 hn3
            obtain⟨A9,c9,rfl,hr9,hc9⟩:=QC hn1
            have hst9:=HT.out.2.1.step (gro H7.out (Qb w7 (.cells (D.map b8).toArray 40))) hjk HT.out.2.2 hn1 hn2
            have k9:=hst9.1.1
            have f9:=hst9.1.2
            have HN:=hid hst9.2
            clear hn1 hn2 hn3 hr9 hc9 hst9)
          |(first|go_at_call 243|go_at_call 245
            refine (HM.out _ HT.out.1).mono ?_
            rintro e w7 ⟨rfl,hb7⟩
            have h7:=gro HT.out.1 hb7
            have kq7:w7.cell? ⟨w5.heap.size,1,none⟩=some (.slice A' j c'):=(by rw[(HT.out.2.1.grown h7).sb.cell];rfl)
            have kq7a:∀ o,(w7.alloc o).cell? ⟨w5.heap.size,1,none⟩=some (.slice A' j c'):=(fun o=>by rw[((HT.out.2.1.grown h7).sb.alloc o).cell];rfl)
            have H7:=hid h7
            clear hb7 h7))
       all_goals
        go_wp2_with fail
        go_roundg (kk-(j+1))
        case measure=>omega
        case rel=>exact⟨j+1,A9,c9,by omega,by go_num,HN.out⟩
     ·obtain rfl:j=kk:=by omega
      have hcell:wr.rangeAt w5.heap.size 0 [.int .u16 bm,.slice A' j c']:=hwk.sb.whole
      have hstp:XY wr w5.heap.size [.int .u16 bm,.slice A' j c'] (bm,ks):=⟨A',c',by rw[show (bm,ks).2.length=j from HG.out.2.2.2.2],by
       have:=hwk.ow
       rw[List.take_of_length_le (by rw[HG.out.2.2.2.2];exact Nat.le_refl _)] at this
       rw[show (bm,ks).2.length=j from HG.out.2.2.2.2]
       exact X7 this (Nat.le_succ _)⟩
      have hoc:∀ v∈[Value.int .u16 bm,.slice A' j c'],v.oneCell'=true:=fun v hv=>by
       simp only[List.mem_cons,List.not_mem_nil,or_false] at hv
       rcases hv with rfl|rfl<;>rfl
      have hy2:∀ x∈[[Value.int .u16 bm,.slice A' j c']],x.length=2:=fun x hx=>by rw[List.mem_singleton] at hx;subst hx;rfl
      have hoc2:∀ v∈[[Value.int .u16 bm,.slice A' j c']].flatten,v.oneCell'=true:=fun v hv=>hoc v (by simpa using hv)
      have hy3:[[Value.int .u16 bm,.slice A' j c']].flatten.length=1*2:=rfl
      have h63:t+1≤maxLen:=by simp only[maxLen];omega
      have hby:(t+1)*32≤140737488355328:=by omega
      have h3i:Below w3.heap.size w3 wr:=H6.out.2.trans (hwk.bl.mono H6.out.2.size)
      have hbx:=Qb wr (.cells [[Value.int .u16 bm,.slice A' j c']].flatten.toArray 151)
      have sa5:=HG.out.2.1.grown H5.out
      have own8:=Qg (Qg (Qg HG.out.1 H5.out) hwk.bl) hbx
      have hbs8:w3.heap.size≤(wr.alloc (.cells [[Value.int .u16 bm,.slice A' j c']].flatten.toArray 151)).heap.size:=(gro h3i hbx).size
      have hr8:=Rd.of _ (Blk.new wr 151 [[Value.int .u16 bm,.slice A' j c']].flatten).whole
      have HT:=hid (Qa hstp (Qa h3i (Qa hbx (Qa sa5 (Qa own8 hr8)))))
      have HW:=hid hwk
      clear hstp h3i hbx sa5 own8 hr8 hwk
      go_upto_region 21 with fail
      go_upto_region 22 with (first
       |((with_reducible refine Qf 151 (.tmp 14) w5.heap.size 0 [.int .u16 bm,.slice A' j c'] 2 _ rfl hcell Tryz.underlying151 rfl (by kernel_rfl) ?_ ?_ ?_ ?_);rfl;rfl;rfl)
       |((with_reducible refine QY 109 151 1 #[(0,.tmp 72)] [[.int .u16 bm,.slice A' j c']] 2 (by decide) hy2 rfl (by decide) (by decide) Tryz.underlying109 (by kernel_rfl) ?_ ?_ ?_ ?_);rfl;rfl;rfl)
       |((with_reducible refine Q1 (.tmp 71) (.tmp 73) 109 Tryz.underlying109 Qcu rfl (by decide) HT.out.2.2.2.2.1 1 1 hy3 HT.out.2.2.2.2.2 hoc2 h63 hby hbs8 ?_ ?_ ?_ ?_ ?_);rfl;rfl;rfl;rfl
         intro v9 w9 hn1 hn2 hn3 hn4
         obtain⟨A9,c9,rfl,hr9,hc9⟩:=QC hn1
         have p9:=But.append HT.out.2.2.2.2.1 hn2
         have hb9:=QB HT.out.2.2.2.2.1 (gro HT.out.2.1 HT.out.2.2.1) hbs8 hn2
         have hs9:=QV.snoc HT.out.2.2.2.1 (((HT.out.2.2.2.1.grown HW.out.bl).grown HT.out.2.2.1).but p9) ((HT.out.1.grown HT.out.2.2.1).but p9) (Nat.le_refl _) H6.out.2.size
         have H9:=hid (Qa hn1 (Qa hs9 hb9))
         clear hn1 hn2 hn3 hn4 hr9 hc9 p9 hb9 hs9))
      have k9:=Zj (HF.out.2.2.1.below H9.out.2.2 HF.out.2.2.1.lt)
      have h9w:Below w.heap.size w w9:=HB.out.1.trans (H9.out.2.2.mono HB.out.1.size)
      have hflat:L.flatten++[[Value.int .u16 bm,.slice A' j c']].flatten=(L++[[Value.int .u16 bm,.slice A' j c']]).flatten:=by rw[List.flatten_append]
      have HY:=hid (Qa h9w hflat)
      clear h9w hflat
      cases q with
      |false=>
       have hE:=HF.out.2.2.2.2.2.2
       rw[HK.out.2.2 rfl] at hE
       have hE2:E=(sts++[(bm,ks)],[]):=hE
       clear hE
       subst hE2
       go_wp2_with (
        (go_at_call 91
         refine (XD bm d hbm hdl _).mono ?_
         rw[HHS.out]
         rintro e w10 ⟨rfl,rfl⟩))
       go_ret3
       have hlen:(sts++[(bm,ks)]).length=t+1:=by rw[List.length_append,HG.out.2.2.2.1];rfl
       refine⟨⟨A9,c9,none,0,L++[[Value.int .u16 bm,.slice A' j c']],[],?_,HY.out.1,?_,H9.out.2.1.low HB.out.1.size,Rd.nil _ _,⟨rfl,fun i x p h=>by simp at h⟩,Tyd.none _ _⟩⟩
       ·rw[show (sts++[(bm,ks)],([]:List Pr)).1.length=t+1 from hlen];rfl
       ·rw[show (sts++[(bm,ks)],([]:List Pr)).1.length=t+1 from hlen,←HY.out.2];exact X7 H9.out.1 HB.out.1.size
      |true=>
       have hE:=HF.out.2.2.2.2.2.2
       rw[HK.out.2.1 rfl] at hE
       obtain⟨g2,o2,he2,hrk,hce,hht⟩:=HK.out.1 rfl
       obtain⟨rfl,rfl⟩:g2=g∧o2=o:=by cases he2;exact⟨rfl,rfl⟩
       obtain⟨r,hrr⟩:∃ r,r=Nib.rank bm d:=⟨_,rfl⟩
       rw[← hrr] at hrk hce
       have HE:=hid (Qa hE (Qa hrr (Qa hce hht)))
       clear hE hrr hce hht he2
       go_upto_region 24 with (
        (go_at_call 91
         refine (XD bm d hbm hdl _).mono ?_
         rw[HHS.out]
         rintro e w10 ⟨rfl,rfl⟩))
       have HS:∀ w',Below w9.heap.size w9 w'→w'.cell? ⟨pb,0,none⟩=some (.int .u16 bm)∧w'.cell? ⟨pb,1,none⟩=some (.slice (some ⟨g2,o2,none⟩) j c)∧w'.cell? ⟨g2,o2+r,none⟩=some (val d):=fun w' hb=>by
        have hbb:=gro H9.out.2.2 hb
        have hbk:=HF.out.2.2.1.below hbb HF.out.2.2.1.lt
        refine⟨Zj hbk,XB hbk,?_⟩
        rw[hbb.cell (p:=⟨g2,o2+r,none⟩) (World.block_lt_of_cell? w3 _ HE.out.2.2.1)];exact HE.out.2.2.1
       have hdr:Below w9.heap.size w9 w9.drew:=(Below.refl _ _).drew
       have HT2:=hid (Qa HS hdr)
       clear HS hdr k9
       go_region_held3 (fun w'=>w'.cell? ⟨pb,0,none⟩=some (.int .u16 bm)∧w'.cell? ⟨pb,1,none⟩=some (.slice (some ⟨g2,o2,none⟩) j c)∧w'.cell? ⟨g2,o2+r,none⟩=some (val d))
        (first|exact HT2.out.1 _ H12.out|exact HT2.out.1 _ HT2.out.2)
        (
         (go_at_call 90
          refine (XP bm d hbm hdl _).mono ?_
          rw[← HE.out.2.1]
          rintro e w12 ⟨rfl,hb12⟩
          have H12:=hid (gro HT2.out.2 hb12);clear hb12))
       go_wp2_with fail
       go_roundg f'
       case measure=>omega
       case rel=>
        refine⟨t+1,Hm.child n t d m',sts++[(bm,ks)],L++[[Value.int .u16 bm,.slice A' j c']],A9,c9,by omega,rfl,by rw[List.length_append,HG.out.2.2.2.1];rfl,.inr HE.out.2.2.2,HF.out.2.2.2.2.1,HF.out.2.2.2.2.2.1,?_,fun e=>absurd e HE.out.2.2.2.ne,?_,H9.out.2.1.grown H12.out,gro H9.out.2.2 H12.out⟩
        ·rw[HE.out.1,List.append_assoc];rfl
        ·rw[← HY.out.2];exact Qg H9.out.1 H12.out
end Go.Proofs.YtpnakfeafekneaaGreatDoor
