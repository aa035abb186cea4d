/- Part 28 of this proof. -/
import Derived.Deep.DeepCutAuto
import Derived.Test.YtpnakfeafekneaaGreatDoorG27
set_option linter.unusedSimpArgs false
set_option linter.unusedVariables false
set_option maxHeartbeats 8000000
set_option maxRecDepth 100000
namespace Go.Proofs.YtpnakfeafekneaaGreatDoor
open Go.RowKit
theorem X7 {w:World}{base base' size n:Nat}{e:TypeId}{v:Value}{xs:List Value}(h:w.ownsRow base e size v n xs)(hb:base'≤base):w.ownsRow base' e size v n xs:=
 Xi h fun k hk=>Nat.le_trans hb (h.lt k hk).1
@[go_sem] def Qg9:Op:= .load 22 (.tmp 55)
@[go_sem] def Qf9:Op:= .load 98 (.tmp 76)
@[go_sem] def Qdz:Op:= .load 98 (.tmp 91)
attribute [-go_sem] Instr.buildSlice in
theorem Va [Inhabited LoT](S0 b n:Nat)(h1:1≤n)(h2:n≤32)(es aa:List Ent)(rs:List Rt)(A:Option Addr)(c:Nat)(L:List (List Value))(w:World)(hw:Qs w)(hs:QJ S0 w n b es rs)(hA:Rd w A L.flatten)(hE:QK w L aa)(hel:es.length+aa.length<1048576)(hrl:rs.length+1<1048576)(hck:En.bchk es.length aa=0):
 Calls Tryz.prog 40 #[ptr b,.agg #[.int .u64 es.length,.slice A aa.length c]] w fun e w'=>∃ b',e= .returned (.tuple #[ptr b',.int .i64 0])∧Below w.heap.size w w'∧QJ w.heap.size w' n b' (es++aa) (rs++[Sn.root n (es++aa)]):=by
 have hchk:=En.bchk_zero hck
 obtain⟨tb,mb,Ae,ce,Le,Ap,cp,hb,ht,hm,⟨he1,he2,he3⟩,⟨hp1,hp2,-⟩,hlast,hok⟩:=hs
 have HLO:=hid (show Lo≤w.heap.size from Nat.le_trans hm.lo (Nat.le_of_lt hm.node.choose_spec.1.lt))
 have hec:=YH Ae es.length ce Le.flatten
 have hpc:=V0 Ap rs.length cp (QI rs).flatten
 have hel3:=he2.flat
 have hpl:(QI rs).flatten.length=rs.length*65:=by rw[Qk 65 _ (Xk hok)];simp[QI]
 have hpo:∀ v∈(QI rs).flatten,v.oneCell'=true:=fun v hv=>by
  obtain⟨x,hx,hv⟩:=List.mem_flatten.1 hv
  obtain⟨r,hr,rfl⟩:=List.mem_map.1 hx
  exact Jf r v hv
 have heo:=he2.oc
 have hsz:=ZM b Ap cp rs (Sn.root n es)
 have HEC:=hid (fun (w':World) (h:Below w.heap.size w w')=>hec w' hel3 (he1.grown h) heo (by omega))
 have HPC:=hid (fun (w':World) (h:Below w.heap.size w w')=>hpc w' hpl (hp1.grown h) hpo (by omega))
 have hszs:∀ w',Below w.heap.size w w'→Calls Tryz.prog 47 #[ptr b] w' fun e w''=>e= .returned (.int .u64 es.length)∧Below w'.heap.size w' w'':=fun (w':World) (h:Below w.heap.size w w')=>hsz w' (by rw[(hb.grown h).cell];rfl) (hp1.grown h) hok hlast (by omega)
 have HSZ:=hid hszs
 clear hszs
 have heb:∀ w',Below w.heap.size w w'→Calls Tryz.prog 68 #[.agg #[.int .u64 es.length,.slice A aa.length c]] w' fun e w''=>∃ v,e= .returned (.tuple #[v,.int .i64 0])∧Below w'.heap.size w' w'':=fun w' h=>by
  have:=Wn es.length (by omega) A c L aa w' (hA.grown h) (hE.grown h) (by omega)
  rw[hck] at this
  exact this
 have HEB:=hid heb
 clear heb
 have HA:=hid (Qa hw (Qa hA (Qa hE (Qa hchk (Qa hb (Qa ht (Qa hm (Qa he2 (Qa hok hck)))))))))
 clear hec hpc hsz hpl hpo heo hel3 hw hA hE hchk hb ht hm he1 he2 he3 hp1 hp2 hlast hok hck
 have hbk:Blk (w.alloc (.cells #[.int .u64 es.length,.slice A aa.length c] 47)) w.heap.size 47 [.int .u64 es.length,.slice A aa.length c]:=Blk.new w _ _
 go_enter Tryz.func40,Tryz.ntmps40
 go_upto_region 1 with fail
 refine Qe (fun w'=>Blk w' w.heap.size 47 [.int .u64 es.length,.slice A aa.length c]∧Below w.heap.size w w') ⟨hbk,Qb _ _⟩ ?_
 clear hbk
 rintro w1 ⟨hb1,hbl1⟩
 have hr1:=hb1.whole
 have HB:=hid (Qa hb1 hbl1)
 clear hb1 hbl1
 go_upto_region 6 with (first
  |((with_reducible refine Qf 47 (.tmp 3) w.heap.size 0 _ 2 _ rfl hr1 Tryz.underlying47 rfl (by kernel_rfl) ?_ ?_ ?_ ?_);rfl;rfl;rfl)
  |(go_at_call 68
    refine (HEB.out _ HB.out.2).mono ?_
    rintro e w2 ⟨v2,rfl,hb2⟩
    have HV:=hid (Qa hb2 (gro HB.out.2 hb2))
    clear hb2))
 have HS:∀ w',Below w2.heap.size w2 w'→w'.cell? ⟨w.heap.size,0,none⟩=some (.int .u64 es.length):=fun w' h=>by rw[((HB.out.1.grown HV.out.1).grown h).cell];rfl
 have hd:Below w2.heap.size w2 w2.drew:=(Below.refl _ _).drew
 have HT:=hid (Qa HS hd)
 clear HS hd
 go_region_held3 (fun w'=>w'.cell? ⟨w.heap.size,0,none⟩=some (.int .u64 es.length))
  (first|exact HT.out.1 _ HT.out.2|exact HT.out.1 _ H3.out.1)
  (first
    |(go_at_call 47
      refine (HSZ.out _ (gro HV.out.2 HT.out.2)).mono ?_
      rintro e w3 ⟨rfl,hb3⟩
      have H3:=hid (Qa (gro HT.out.2 hb3) True.intro)
      clear hb3))
 go_upto_region 8 with fail
 have HS:∀ w',Below w3.heap.size w3 w'→w'.cell? ⟨b,1,none⟩=some (ptr mb)∧w'.cell? ⟨b,2,none⟩=some (.slice Ae es.length ce)∧w'.cell? ⟨b,3,none⟩=some (.slice Ap rs.length cp):=fun w' h=>by
  have h:=HA.out.2.2.2.2.1.grown (gro (gro HV.out.2 H3.out.1) h)
  exact⟨by rw[h.cell];rfl,by rw[h.cell];rfl,by rw[h.cell];rfl⟩
 have hd:Below w3.heap.size w3 w3.drew:=(Below.refl _ _).drew
 have HT2:=hid (Qa HS (Qa hd (gro (gro HV.out.2 H3.out.1) hd)))
 clear HS hd
 go_cut [8] (fun s8 wx=>∃ (q:Nat) (eV pV:Value),s8=ptr q∧Mk w.heap.size n wx q es (Sn.map n es) rs [] (.slice none 0 0) mb eV pV∧Blk wx w.heap.size 47 [.int .u64 es.length,.slice A aa.length c]∧Below w.heap.size w wx)
 case first=>
  go_region_held3 (fun w'=>w'.cell? ⟨b,1,none⟩=some (ptr mb)∧w'.cell? ⟨b,2,none⟩=some (.slice Ae es.length ce)∧w'.cell? ⟨b,3,none⟩=some (.slice Ap rs.length cp))
   (first|exact HT2.out.1 _ HT2.out.2.1|exact HT2.out.1 _ H5.out.1|exact HT2.out.1 _ (H5.out.1.alloc H5.out.1.size _)|exact HT2.out.1 _ HP4.out.1|exact HT2.out.1 _ HE4.out.1)
   (first
     |(go_at_call 69
       refine (HPC.out _ (gro HT2.out.2.2 HE4.out.2.2.1)).mono ?_
       rintro e w5 ⟨v5,rfl,hb5,ho5,-⟩
       obtain⟨A7,c7,rfl,-,-⟩:=QC ho5
       replace ho5:=X7 ho5 (gro HT2.out.2.2 HE4.out.2.2.1).size
       have H5:=hid (Qa (gro HE4.out.1 hb5) (Qa (Qg HE4.out.2.1 hb5) ho5))
       clear hb5 ho5)
     |(go_at_call 70
       refine (HEC.out _ (gro HT2.out.2.2 HP4.out.2.2.1)).mono ?_
       rintro e w5 ⟨v5,rfl,hb5,ho5,-⟩
       obtain⟨A8,c8,rfl,-,-⟩:=QC ho5
       replace ho5:=X7 ho5 (gro HT2.out.2.2 HP4.out.2.2.1).size
       have H5:=hid (Qa (gro HP4.out.1 hb5) (Qa ho5 (Qg HP4.out.2.1 hb5)))
       clear hb5 ho5)
     |(go_at_call 69
       refine (HPC.out _ HT2.out.2.2).mono ?_
       rintro e w4 ⟨v4,rfl,hb4,ho4,-⟩
       obtain⟨A7,c7,rfl,-,-⟩:=QC ho4
       replace ho4:=X7 ho4 HT2.out.2.2.size
       have HP4:=hid (Qa (gro HT2.out.2.1 hb4) (Qa ho4 (Qa hb4 True.intro)))
       clear hb4 ho4)
     |(go_at_call 70
       refine (HEC.out _ HT2.out.2.2).mono ?_
       rintro e w4 ⟨v4,rfl,hb4,ho4,-⟩
       obtain⟨A8,c8,rfl,-,-⟩:=QC ho4
       replace ho4:=X7 ho4 HT2.out.2.2.size
       have HE4:=hid (Qa (gro HT2.out.2.1 hb4) (Qa ho4 (Qa hb4 True.intro)))
       clear hb4 ho4))
  all_goals
   go_wp2_with fail
   go_meet
   have hw5:=gro (gro HV.out.2 H3.out.1) H5.out.1
   have hbx:=Qb w5 (.cells #[.pointer none,ptr mb,.slice A8 es.length c8,.slice A7 rs.length c7] 100)
   refine⟨_,_,_,rfl,⟨Le,Blk.new w5 _ [.pointer none,ptr mb,.slice A8 es.length c8,.slice A7 rs.length c7],HA.out.2.2.2.2.2.2.1.grown (gro hw5 hbx),HA.out.2.2.2.2.2.2.2.1.grown (gro hw5 hbx),Qg H5.out.2.1 hbx,Qg H5.out.2.2 hbx,World.ownsRow_nil _ _ _ _,hw5.size⟩,(HB.out.1.grown (gro HV.out.1 (gro H3.out.1 H5.out.1))).grown hbx,gro hw5 hbx⟩
 case rest=>
  obtain⟨q,eV,pV,rfl,hmk,hbx,hbl⟩:=hcut
  have c1:wc.cell? ⟨w.heap.size,1,none⟩=some (.slice A aa.length c):=by rw[hbx.cell];rfl
  have HM:=hid (Qa hmk hbl)
  clear hmk hbl hbx HT HEC HPC HSZ HEB H3 HV HB hr1
  go_wp2_with fail
  go_loopg [9,48] aa.length (fun g s9 i wr=>∃ (j mb':Nat) (eV' pV':Value) (Al:Option Addr) (cl:Nat),j+g=aa.length∧i= .int .i64 j∧s9= .slice Al j cl∧Mk w.heap.size n wr q (es++aa.take j) (Sn.map n (es++aa.take j)) rs (Sn.leaves n (aa.take j)) (.slice Al j cl) mb' eV' pV'∧Below w.heap.size w wr)
  case atStart=>exact⟨0,mb,eV,pV,none,0,by omega,rfl,rfl,by simpa [Sn.leaves] using HM.out.1,HM.out.2⟩
  case round=>
   obtain⟨j,mb',eV',pV',Al,cl,hj,rfl,rfl,hmk,hbl⟩:=hrel
   have HR:=hid (Qa hmk hbl)
   clear hmk hbl
   by_cases hlt:j<aa.length
   ·obtain⟨kind,key,val,hjj⟩:∃ kind key val,aa[j]?=some ⟨kind,key,val⟩:=⟨aa[j].kind,aa[j].key,aa[j].val,by simp[hlt]⟩
    have hsub:aa.take (j+1)=aa.take j++[⟨kind,key,val⟩]:=by rw[List.take_succ_eq_append_getElem hlt,(List.getElem?_eq_some_iff.1 hjj).2]
    have hok:=HA.out.2.2.2.1.2.2.2 _ (List.mem_of_getElem? hjj)
    have hlen:=En.lens _ hok
    simp only at hlen
    have hL:=HA.out.2.2.1.len
    have hjl:j<L.length:=by omega
    obtain⟨g,o,rfl,hr⟩:=HA.out.2.1 (by
     intro e
     have:=Qk 3 _ HA.out.2.2.1.three
     rw[e] at this
     simp at this;omega)
    have hp:=Qt hr HA.out.2.2.1.three j hjl
    obtain⟨A1,c1',A2,c2',hx,hr1,hr2,hc1,hc2⟩:=HA.out.2.2.1.at_ j L[j] ⟨kind,key,val⟩ (by simp[hjl]) hjj
    rw[hx] at hp
    simp only[] at hp
    have hlb:=Qo hp (by simp)
    have hp2:=Qh hp HR.out.2 hlb
    have hea:Xu w [b8 kind,.slice A1 key.length c1',.slice A2 val.length c2'] ⟨kind,key,val⟩:=⟨A1,c1',A2,c2',rfl,hr1,hr2,hc1,hc2⟩
    have hoc:∀ v∈[b8 kind,.slice A1 key.length c1',.slice A2 val.length c2'],v.oneCell'=true:=fun v hv=>by
     simp only[List.mem_cons,List.not_mem_nil,or_false] at hv
     rcases hv with rfl|rfl|rfl<;>rfl
    have HX:=hid (Qa hsub (Qa hok (Qa hlen (Qa hea (Qa hr1 hr2)))))
    clear hr hr1 hr2 hx hp hsub hok hea hc1 hc2 hL
    go_upto_region 13 with (first
     |((with_reducible refine Qf 36 (.tmp 50) g (o+j*3) _ 3 _ rfl hp2 Tryz.underlying36 rfl (by kernel_rfl) ?_ ?_ ?_ ?_);rfl;rfl;rfl)
     |((with_reducible refine Qw 36 (.tmp 11) (.tmp 51) _ _ [b8 kind,.slice A1 key.length c1',.slice A2 val.length c2'] 3 rfl ?_ (by kernel_rfl) hoc ?_ ?_ ?_ ?_ ?_);rfl;rfl;rfl;rfl;rfl))
    refine Qe (fun w'=>Blk w' wr.heap.size 36 [b8 kind,.slice A1 key.length c1',.slice A2 val.length c2']∧Below wr.heap.size wr w') ⟨Blk.new wr _ _,Qb _ _⟩ ?_
    rintro wd ⟨hbx,hbl⟩
    have HD:=hid (Qa hbx hbl)
    clear hbx hbl hoc hp2 hlb
    have hc3:∀ w',Blk w' wr.heap.size 36 [b8 kind,.slice A1 key.length c1',.slice A2 val.length c2']→w'.cell? ⟨wr.heap.size,0,none⟩=some (b8 kind)∧w'.cell? ⟨wr.heap.size,1,none⟩=some (.slice A1 key.length c1')∧w'.cell? ⟨wr.heap.size,2,none⟩=some (.slice A2 val.length c2'):=fun w' h=>⟨by rw[h.cell];rfl,by rw[h.cell];rfl,by rw[h.cell];rfl⟩
    have HC3:=hid hc3
    clear hc3
    simp only[Act.put]
    go_cut [60] (fun s60 wx=>∃ (eV2:Value),Mk w.heap.size n wx q ((es++aa.take j)++[⟨kind,key,val⟩]) (Sn.map n (es++aa.take j)) rs (Sn.leaves n (aa.take j)) (.slice Al j cl) mb' eV2 pV'∧Blk wx wr.heap.size 36 [b8 kind,.slice A1 key.length c1',.slice A2 val.length c2']∧Below w.heap.size w wx)
    case first=>
     obtain⟨Lk,hLk1,hLk2⟩:=HR.out.1.ents
     have hq:=HR.out.1.blk
     have hwd:=gro HR.out.2 HD.out.2
     have hnl:(es++aa.take j).length<1048576:=by rw[List.length_append,List.length_take];omega
     obtain⟨N,hN⟩:∃ N,N=(es++aa.take j).length:=⟨_,rfl⟩
     rw[← hN] at hLk2 hnl
     have HNN:=hid hN
     clear hN
     have hoc:∀ (a b:Value),a.oneCell'=true→b.oneCell'=true→∀ v∈[b8 kind,a,b],v.oneCell'=true:=fun a b ha hb v hv=>by
      simp only[List.mem_cons,List.not_mem_nil,or_false] at hv
      rcases hv with rfl|rfl|rfl
      ·rfl
      ·exact ha
      ·exact hb
     have HS:∀ w',Below wd.heap.size wd w'→w'.cell? ⟨wr.heap.size,0,none⟩=some (b8 kind)∧w'.cell? ⟨wr.heap.size,1,none⟩=some (.slice A1 key.length c1')∧w'.cell? ⟨wr.heap.size,2,none⟩=some (.slice A2 val.length c2'):=fun w' h=>by
      have h:=HD.out.1.grown h
      exact⟨by rw[h.cell];rfl,by rw[h.cell];rfl,by rw[h.cell];rfl⟩
     have hd:Below wd.heap.size wd wd.drew:=(Below.refl _ _).drew
     have kq:wd.cell? ⟨q,2,none⟩=some eV':=by rw[(hq.grown HD.out.2).cell];rfl
     have HT:=hid (Qa HS (Qa hd (Qa hq (Qa hLk1 (Qa hLk2 (Qa hwd (Qa hnl hoc)))))))
     clear HS hd hq hLk1 hLk2 hwd hnl hoc
     rw[show Op.load 22 (.tmp 55)=Qg9 from rfl]
     go_region_held3 (fun w'=>w'.cell? ⟨wr.heap.size,0,none⟩=some (b8 kind)∧w'.cell? ⟨wr.heap.size,1,none⟩=some (.slice A1 key.length c1')∧w'.cell? ⟨wr.heap.size,2,none⟩=some (.slice A2 val.length c2'))
      (first|exact HT.out.1 _ HT.out.2.1|exact HT.out.1 _ H7.out.1|exact HT.out.1 _ (H7.out.1.alloc H7.out.1.size _)|exact HC3.out _ HN.out.1|exact HC3.out _ (HN.out.2.2.1 _))
      (first
        |(refine XK (.tmp 56) (.tmp 59) 22 Tryz.underlying22 ZP rfl (by decide) (Qg HT.out.2.2.2.2.1 (gro HD.out.2 (H7.out.1.alloc H7.out.1.size _))) 1 1 (news:=[b8 kind,.slice A5 key.length c5,.slice A6 val.length c6]) rfl (Rd.of _ (Blk.new w7 _ _).whole) (HT.out.2.2.2.2.2.2.2 _ _ rfl rfl) (by have:=HT.out.2.2.2.2.2.2.1;simp only[maxLen];omega) (by have:=HT.out.2.2.2.2.2.2.1;omega) (gro HT.out.2.2.2.2.2.1 (H7.out.1.alloc H7.out.1.size _)).size rfl rfl rfl rfl ?_
          intro v9 w9 hn1 hn2 hn3
          obtain⟨A9,c9,rfl,hr9,hc9⟩:=QC hn1
          have hst:=HR.out.1.entry_step HT.out.2.2.2.1 HNN.out HT.out.2.2.2.2.1 (gro HD.out.2 (H7.out.1.alloc H7.out.1.size _)) (HD.out.1.grown (H7.out.1.alloc H7.out.1.size _)) (H7.out.2.stay (QQ.of_grown (Qb _ _))) hn1 hn2 HR.out.2 HR.out.2.size
          have k9:=hst.2.1.1
          have f9:=hst.2.1.2
          have HN:=hid hst
          clear hn1 hn2 hn3 hr9 hc9 hst)
        |(go_at_call 71
          refine (Y8 _ ⟨kind,key,val⟩ _ (HX.out.2.2.2.1.grown (gro HT.out.2.2.2.2.2.1 HT.out.2.1)) (by show key.length<_;omega) (by show val.length<_;omega) (Nat.le_trans HLO.out (gro HT.out.2.2.2.2.2.1 HT.out.2.1).size)).mono ?_
          rintro e w7 ⟨y,rfl,hb7,hy⟩
          have hy2:=hy
          obtain⟨A5,c5,A6,c6,rfl,-⟩:=hy2
          have h7:=gro HT.out.2.1 hb7
          have kq7:w7.cell? ⟨q,2,none⟩=some eV':=(by rw[(HT.out.2.2.1.grown (gro HD.out.2 h7)).cell];rfl)
          have kq7a:∀ o,(w7.alloc o).cell? ⟨q,2,none⟩=some eV':=(fun o=>by rw[((HT.out.2.2.1.grown (gro HD.out.2 h7)).alloc o).cell];rfl)
          have hbsE:=Ky (P:=Tryz.prog) 22 36 [b8 kind,.slice A5 key.length c5,.slice A6 val.length c6] 3 (by decide) rfl (by decide) Tryz.underlying22 (by kernel_rfl)
          have H7:=hid (Qa h7 hy)
          clear hb7 hy h7))
     all_goals
      go_wp2_with fail
      go_meet
      exact⟨_,HN.out.2.2.2.1,HN.out.2.2.1 _,HN.out.2.2.2.2⟩
    case rest=>
     obtain⟨eV2,hmk,hbx,hbl⟩:=hcut
     have hxr:=hbx.whole
     have hsl:=Dg.sum_length n (Dg.leafIn (En.bytes ⟨kind,key,val⟩)) h2
     have hdl:∀ x∈[(Dg.leaf n (En.bytes ⟨kind,key,val⟩)).map b8],x.length=32:=fun x hx=>by
      rw[List.mem_singleton] at hx;subst hx;unfold Dg.leaf;simp[hsl]
     have hdl1:[(Dg.leaf n (En.bytes ⟨kind,key,val⟩)).map b8].flatten.length=1*32:=by simp[Dg.leaf,hsl]
     have hone:∀ v∈[(Dg.leaf n (En.bytes ⟨kind,key,val⟩)).map b8].flatten,v.oneCell'=true:=fun v hv=>Qi (Dg.leaf n (En.bytes ⟨kind,key,val⟩)) v (by simpa using hv)
     have hll:(Sn.leaves n (aa.take j)).length=j:=by simp[Sn.leaves];omega
     have h63:(Sn.leaves n (aa.take j)).length+1≤maxLen:=by rw[hll];simp only[maxLen];omega
     have hby:((Sn.leaves n (aa.take j)).length+1)*32≤140737488355328:=by rw[hll];omega
     have HLL:=hid hll
     have HD2:=hid (Qa hmk (Qa hbx hbl))
     clear hmk hbx hbl hsl hll
     go_upto_if 71 with (first
      |((with_reducible refine Qf 36 (.tmp 11) wr.heap.size 0 _ 3 _ rfl hxr Tryz.underlying36 rfl (by kernel_rfl) ?_ ?_ ?_ ?_);rfl;rfl;rfl)
      |(go_at_call 72
        refine (Qdy b tb n h1 h2 (Sn.leaves n es) _ ⟨kind,key,val⟩ wc (HA.out.1.below HD2.out.2.2) (by rw[(HA.out.2.2.2.2.1.grown HD2.out.2.2).cell];rfl) (HA.out.2.2.2.2.2.1.grown HD2.out.2.2) (HX.out.2.2.2.1.grown HD2.out.2.2) HX.out.2.1).mono ?_
        rintro e w10 ⟨rfl,hb10⟩
        have hb11:=hb10.alloc hb10.size (.cells [(Dg.leaf n (En.bytes ⟨kind,key,val⟩)).map b8].flatten.toArray 40)
        have hown11:=Qg HD2.out.1.leaves hb11
        have hr11:=Rd.of _ (Blk.new w10 40 [(Dg.leaf n (En.bytes ⟨kind,key,val⟩)).map b8].flatten).whole
        have hbs11:=(gro HD2.out.2.2 hb11).size
        have H10:=hid (Qa hb11 (Qa hown11 hr11))
        clear hb10 hb11 hown11 hr11)
      |((with_reducible refine QY 105 40 1 #[(0,.tmp 66)] [(Dg.leaf n (En.bytes ⟨kind,key,val⟩)).map b8] 32 (by decide) hdl rfl (by decide) (by decide) Tryz.underlying105 (by kernel_rfl) ?_ ?_ ?_ ?_);rfl;rfl;rfl)
      |((with_reducible refine Q1 (.tmp 63) (.tmp 67) 105 Tryz.underlying105 Jp rfl (by decide) H10.out.2.1 1 1 hdl1 H10.out.2.2 hone h63 hby hbs11 ?_ ?_ ?_ ?_ ?_);rfl;rfl;rfl;rfl
        intro v11 w11 hn1 hn2 hn3 hn4
        obtain⟨A11,c11,rfl,hr9,hc9⟩:=QC hn1
        have hst:=HD2.out.1.leaf_step H10.out.1 HD2.out.2.1 (Dg.leaf n (En.bytes ⟨kind,key,val⟩)) hn1 hn2 HD2.out.2.2
        have hc0:w11.cell? ⟨wr.heap.size,0,none⟩=some (b8 kind):=(by rw[hst.1.cell];rfl)
        have H11:=hid hst
        clear hn1 hn2 hn3 hn4 hr9 hc9 hst))
     have hml:(Sn.map n (es++aa.take j)).length+1<1048576:=by have:=map_len n (es++aa.take j);rw[List.length_append,List.length_take] at this;omega
     have HML:=hid hml
     clear hml hxr hdl hdl1 hone h63 hby hbs11
     have hlen64:key.length≤64∧val.length≤256:=HX.out.2.2.1
     have hn8:(n8 kind == 1)=decide (kind=1):=by
      by_cases h:kind=1
      ·subst h;rfl
      ·rw[decide_eq_false h,beq_eq_false_iff_ne]
       intro h'
       exact h (UInt8.toNat_inj.1 (by have:kind.toNat=1:=(by unfold n8 at h';omega);rw[this];rfl))
     by_cases hk:kind=1
     ·rw[decide_eq_true hk] at hn8
      rw[hn8]
      have HK:=hid hk
      clear hk hn8
      go_upto_region 16 with fail
      have HS:∀ w',Below w11.heap.size w11 w'→w'.cell? ⟨wr.heap.size,0,none⟩=some (b8 kind)∧w'.cell? ⟨wr.heap.size,1,none⟩=some (.slice A1 key.length c1')∧w'.cell? ⟨wr.heap.size,2,none⟩=some (.slice A2 val.length c2'):=fun w' h=>HC3.out _ (H11.out.1.grown h)
      have hd:Below w11.heap.size w11 w11.drew:=(Below.refl _ _).drew
      have kq:w11.cell? ⟨q,1,none⟩=some (ptr mb'):=by rw[H11.out.2.1.blk.cell];rfl
      have HT:=hid (Qa HS (Qa hd (gro H11.out.2.2 hd)))
      clear HS hd hc0
      rw[show Op.load 98 (.tmp 76)=Qf9 from rfl]
      go_region_held3 (fun w'=>w'.cell? ⟨wr.heap.size,0,none⟩=some (b8 kind)∧w'.cell? ⟨wr.heap.size,1,none⟩=some (.slice A1 key.length c1')∧w'.cell? ⟨wr.heap.size,2,none⟩=some (.slice A2 val.length c2'))
       (first|exact HT.out.1 _ HT.out.2.1|exact HC3.out _ H12.out.1|exact HC3.out _ (H12.out.2.2.1 _))
       (first
         |(go_at_call 73
           refine (Qf5 mb' n h1 h2 (Sn.map n (es++aa.take j)) key val A1 A2 c1' c2' _ (HA.out.1.below HT.out.2.2) (H11.out.2.1.map.grown HT.out.2.1) (HX.out.2.2.2.2.1.grown HT.out.2.2) (HX.out.2.2.2.2.2.grown HT.out.2.2) hlen64.1 hlen64.2 HML.out).mono ?_
           rintro e w12 ⟨mb2,rfl,hb12,hm12⟩
           have hst:=H11.out.2.1.put_step (gro HT.out.2.1 hb12) hm12 H11.out.1 H11.out.2.2
           have k12:=hst.2.1.1
           have f12:=hst.2.1.2
           have H12:=hid hst
           clear hb12 hm12 hst))
      go_wp2_with fail
      go_roundg (gk-1)
      case measure=>omega
      case rel=>
       have hes:es++aa.take (j+1)=(es++aa.take j)++[⟨kind,key,val⟩]:=by rw[HX.out.1,List.append_assoc]
       have hls:Sn.leaves n (aa.take (j+1))=Sn.leaves n (aa.take j)++[Dg.leaf n (En.bytes ⟨kind,key,val⟩)]:=by rw[HX.out.1];simp[Sn.leaves]
       have hmp:Sn.map n (es++aa.take (j+1))=Hm.ins n ⟨key,val⟩ (Sn.map n (es++aa.take j)):=by rw[hes,Sn.map_snoc];unfold Sn.step;simp only[HK.out,if_true]
       rw[hes] at hmp
       refine⟨j+1,mb2,eV2,pV',A11,c11,by omega,by go_num,by rw[HLL.out],?_,H12.out.2.2.2.2⟩
       rw[hes,hls,hmp,←HLL.out]
       simpa only[HLL.out] using H12.out.2.2.2.1
     ·rw[decide_eq_false hk] at hn8
      rw[hn8]
      have HK:=hid hk
      clear hk hn8
      go_upto_region 17 with fail
      have HS:∀ w',Below w11.heap.size w11 w'→w'.cell? ⟨wr.heap.size,0,none⟩=some (b8 kind)∧w'.cell? ⟨wr.heap.size,1,none⟩=some (.slice A1 key.length c1')∧w'.cell? ⟨wr.heap.size,2,none⟩=some (.slice A2 val.length c2'):=fun w' h=>HC3.out _ (H11.out.1.grown h)
      have hd:Below w11.heap.size w11 w11.drew:=(Below.refl _ _).drew
      have kq:w11.cell? ⟨q,1,none⟩=some (ptr mb'):=by rw[H11.out.2.1.blk.cell];rfl
      have HT:=hid (Qa HS (Qa hd (gro H11.out.2.2 hd)))
      clear HS hd hc0
      rw[show Op.load 98 (.tmp 91)=Qdz from rfl]
      go_region_held3 (fun w'=>w'.cell? ⟨wr.heap.size,0,none⟩=some (b8 kind)∧w'.cell? ⟨wr.heap.size,1,none⟩=some (.slice A1 key.length c1')∧w'.cell? ⟨wr.heap.size,2,none⟩=some (.slice A2 val.length c2'))
       (first|exact HT.out.1 _ HT.out.2.1|exact HC3.out _ H12.out.1|exact HC3.out _ (H12.out.2.2.1 _))
       (first
         |(go_at_call 74
           refine (WI mb' n h1 h2 (Sn.map n (es++aa.take j)) key A1 c1' _ (HA.out.1.below HT.out.2.2) (H11.out.2.1.map.grown HT.out.2.1) (HX.out.2.2.2.2.1.grown HT.out.2.2) hlen64.1).mono ?_
           rintro e w12 ⟨mb2,rfl,hb12,hm12⟩
           have hst:=H11.out.2.1.put_step (gro HT.out.2.1 hb12) hm12 H11.out.1 H11.out.2.2
           have k12:=hst.2.1.1
           have f12:=hst.2.1.2
           have H12:=hid hst
           clear hb12 hm12 hst))
      go_wp2_with fail
      go_roundg (gk-1)
      case measure=>omega
      case rel=>
       have hes:es++aa.take (j+1)=(es++aa.take j)++[⟨kind,key,val⟩]:=by rw[HX.out.1,List.append_assoc]
       have hls:Sn.leaves n (aa.take (j+1))=Sn.leaves n (aa.take j)++[Dg.leaf n (En.bytes ⟨kind,key,val⟩)]:=by rw[HX.out.1];simp[Sn.leaves]
       have hmp:Sn.map n (es++aa.take (j+1))=Hm.del key (Sn.map n (es++aa.take j)):=by rw[hes,Sn.map_snoc];unfold Sn.step;simp only[HK.out,if_false]
       rw[hes] at hmp
       refine⟨j+1,mb2,eV2,pV',A11,c11,by omega,by go_num,by rw[HLL.out],?_,H12.out.2.2.2.2⟩
       rw[hes,hls,hmp,←HLL.out]
       simpa only[HLL.out] using H12.out.2.2.2.1
   ·obtain rfl:j=aa.length:=by omega
    have hmk:=HR.out.1
    rw[List.take_length] at hmk
    have hlv:(Sn.leaves n aa).length=aa.length:=by simp[Sn.leaves]
    have hfit:XZ n (Sn.leaves n aa):=fun d hd=>by
     obtain⟨e,he,rfl⟩:=List.mem_map.1 hd
     exact⟨Dg.sum_length _ _ h2,Dg.form_sum _ _ h2⟩
    have hta:Calls Tryz.prog 75 #[ptr tb,.slice Al aa.length cl] wr fun e w'=>∃ b',e= .returned (.tuple #[ptr b',.int .i64 0])∧Below wr.heap.size wr w'∧QT w' b' n (Sn.leaves n (es++aa)):=by
     obtain⟨A',c',e',hr',-⟩:=QC hmk.leaves
     simp only[Value.slice.injEq] at e'
     obtain⟨rfl,-,rfl⟩:=e'
     have:=Wt tb n h1 h2 (Sn.leaves n es) (Sn.leaves n aa) Al cl wr (HA.out.2.2.2.2.2.1.grown HR.out.2) (HA.out.1.below HR.out.2) hfit hr' (by simp only[Sn.leaves,List.length_map];omega)
     rw[hlv,show Sn.leaves n es++Sn.leaves n aa=Sn.leaves n (es++aa) from by simp[Sn.leaves]] at this
     exact this
    have hb0:wr.cell? ⟨b,0,none⟩=some (ptr tb):=by rw[(HA.out.2.2.2.2.1.grown HR.out.2).cell];rfl
    have HTA:=hid (Qa hta hmk)
    clear hta hmk hlv hfit
    go_wp2_with (first
     |(go_at_call 67
       refine (HF.out.2).mono ?_
       rintro e w14 ⟨rfl,hb14,hs14⟩
       have H14:=hid (Qa hb14 hs14)
       clear hb14 hs14)
     |(go_at_call 75
       refine (HTA.out.1).mono ?_
       rintro e w13 ⟨tb2,rfl,hb13,ht13⟩
       have hb13w:=Kz HTA.out.2.ge (gro HR.out.2 hb13) 0 (ptr tb2)
       have hf:=HTA.out.2.finish rfl hb13 ht13 h1 h2 (HA.out.1.below hb13w) HA.out.2.2.2.2.2.2.2.2.1 (by rw[List.length_append];omega) (by omega)
       have k13:=hf.1.1
       have f13:=hf.1.2
       have HF:=hid hf
       have H13:=hid hb13w
       clear hb13 ht13 hf hb13w))
    go_ret2
    exact⟨q,rfl,H13.out.trans H14.out.1,H14.out.2⟩
theorem XH [Inhabited LoT]{S n q:Nat}{es:List Ent}{rs:List Rt}(w:World)(h:QJ S w n q es rs)(hn:rs.length<1048576):
 Calls Tryz.prog 29 #[ptr q] w fun e w'=>e= .returned (.agg (Qd (Sn.root n es)).toArray)∧Below w.heap.size w w':=by
 obtain⟨tb,mb,A,c,L,Ap,cp,h1,h2,h3,⟨h4,h5,h6⟩,⟨h7,h8,h8'⟩,h9,h10⟩:=h
 exact Y9 q Ap cp rs (Sn.root n es) w (by rw[h1.cell];rfl) h7 h10 h9 hn
theorem QJ.len [Inhabited LoT]{S n q:Nat}{es:List Ent}{rs:List Rt}{w:World}(h:QJ S w n q es rs):(Qd (Sn.root n es)).length=65:=by
 obtain⟨tb,mb,A,c,L,Ap,cp,h1,h2,h3,⟨h4,h5,h6⟩,⟨h7,h8,h8'⟩,h9,h10⟩:=h
 exact XG (h10 _ (List.mem_of_getLast? h9))
theorem QJ.row [Inhabited LoT]{S B n q k:Nat}{es:List Ent}{rs:List Rt}{w w':World}{v:Value}{xs:List Value}(h:QJ S w n q es rs)(ho:w.ownsRow B 42 65 v k xs)(hlt:∀ k,v.ownBlock=some k→k<S)(hg:w.grownBy w' v.ownBlock):QJ S w' n q es rs:=by
 obtain⟨tb,mb,A,c,L,Ap,cp,h1,h2,h3,⟨h4,h5,h6⟩,⟨h7,h8,h8'⟩,h9⟩:=h
 have s:=But.append ho hg
 have p:=s.pure (by decide)
 have hk:=Qn hg
 refine⟨tb,mb,A,c,L,Ap,cp,s.blk h1 (by decide),h2.stay p,h3.stay p,⟨s.rd h4 h6 (by decide),h5.stay p,s.tyd h6 (by decide)⟩,⟨h7.kept hk (fun a ha _ hs=>?_),fun a ha=>?_,h8'⟩,h9⟩
 ·have:=h8' a ha;have:=hlt _ hs;omega
 ·obtain⟨cc,fz,hh⟩:=h8 a ha
  refine⟨cc,fz,?_⟩
  rw[hk.block a.block ?_ (fun hs=>by have:=h8' a ha;have:=hlt _ hs;omega)]
  ·exact hh
  ·rcases Nat.lt_or_ge a.block w.heap.size with hlt|hge
   ·exact hlt
   ·rw[Array.getElem?_eq_none hge] at hh;cases hh
def Rl (n:Nat)(es:List Ent)(k:Nat):List Rt:=(List.range (k+1)).map fun i=>Sn.root n (es.take i)
theorem WL (n:Nat)(es:List Ent)(k:Nat):(Rl n es k).length=k+1:=by simp[Rl]
theorem Qau (n:Nat)(es:List Ent)(k:Nat):Rl n es (k+1)=Rl n es k++[Sn.root n (es.take (k+1))]:=by
 unfold Rl
 rw[List.range_succ (n:=k+1),List.map_append]
 rfl
theorem Qav (n:Nat)(es:List Ent):Rl n es 0=[Sn.root n []]:=by simp[Rl]
theorem Qga (w:World)(B:Nat)(t:TypeId)(s:Nat)(cs:List Value)(hl:cs.length=1*s)(hB:B≤w.heap.size):(w.alloc (.cells cs.toArray t)).ownsRow B t s (.slice (some ⟨w.heap.size,0,none⟩) 1 1) 1 cs:=
 ⟨hl,.inr ⟨_,1,cs.toArray,rfl,hB,heap_alloc_new _ _,Nat.le_refl _,by decide,by simp[hl],by rw[← hl];simp⟩⟩
def En.all (es:List Ent):Nat:=es.foldl (fun e a=>En.least e (En.check a)) 0
theorem En.one_ok (F:Nat)(hF:F+1<18446744073709551616)(e:Ent)(h:En.check e=0):En.bchk F [e]=0:=by
 unfold En.bchk En.bfirst
 rw[if_neg (by simp;omega)]
 simp[h,En.least]
theorem En.all_zero {es:List Ent}(h:En.all es=0):∀ a∈es,En.check a=0:=(En.fold_zero es 0 h).2
theorem Yp (n:Nat)(h1:1≤n)(h2:n≤32)(es:List Ent)(A:Option Addr)(c:Nat)(L:List (List Value))(w:World)(hw:Qs w)(hA:Rd w A L.flatten)(hE:QK w L es)(hn:es.length+2<1048576):
 Calls Tryz.prog 9 #[.int .i64 n,.slice A es.length c] w fun e w'=>Below w.heap.size w w'∧((En.all es≠0∧e= .returned (.tuple #[.slice none 0 0,.int .i64 (En.all es)]))∨(En.all es=0∧∃ Ar cr,e= .returned (.tuple #[.slice Ar (es.length+1) cr,.int .i64 0])∧Rd w' Ar (QI (Rl n es es.length)).flatten∧Tyd w' 42 Ar)):=by
 have HA:=hid (Qa hw (Qa hA hE))
 clear hw hA hE
 go_enter Tryz.func9,Tryz.ntmps9
 go_wp2_with (first
  |(go_at_call 38
    refine (Qat n h1 h2 w HA.out.1 (Lo.zero _)).mono ?_
    rintro e w2 ⟨q,rfl,hb2,hs2⟩
    have H2:=hid (Qa hb2 hs2)
    clear hb2 hs2))
 go_loopg [7,24] es.length (fun g s7 i wr=>∃ j e:Nat,j+g=es.length∧i= .int .i64 j∧s7= .int .i64 e∧e<4∧e=(es.take j).foldl (fun e a=>En.least e (En.check a)) 0∧Below w2.heap.size w2 wr)
 case atStart=>exact⟨0,0,by omega,rfl,rfl,by omega,rfl,Below.refl _ _⟩
 case round=>
  obtain⟨j,ee,hj,rfl,rfl,helt,hee,hi⟩:=hrel
  have HI:=hid (Qa hee hi)
  clear hee hi
  by_cases hlt:j<es.length
  ·obtain⟨kind,key,val,hjj⟩:∃ kind key val,es[j]?=some ⟨kind,key,val⟩:=⟨es[j].kind,es[j].key,es[j].val,by simp[hlt]⟩
   have hL:=HA.out.2.2.len
   have hjl:j<L.length:=by omega
   obtain⟨g,o,rfl,hr⟩:=HA.out.2.1 (by
    intro e
    have:=Qk 3 _ HA.out.2.2.three
    rw[e] at this
    simp at this;omega)
   have hp:=Qt hr HA.out.2.2.three j hjl
   obtain⟨A1,c1',A2,c2',hx,hr1,hr2,hc1,hc2⟩:=HA.out.2.2.at_ j L[j] ⟨kind,key,val⟩ (by simp[hjl]) hjj
   rw[hx] at hp
   simp only[] at hp
   have hlb:=Qo hp (by simp)
   have hp2:=Qh hp (gro H2.out.1 HI.out.2) hlb
   have hfold:(es.take (j+1)).foldl (fun e a=>En.least e (En.check a)) 0=En.least ee (En.chk kind key.length val.length):=by
    rw[List.take_succ_eq_append_getElem hlt,List.foldl_append,←HI.out.1,(List.getElem?_eq_some_iff.1 hjj).2];rfl
   have hoc:∀ v∈[b8 kind,.slice A1 key.length c1',.slice A2 val.length c2'],v.oneCell'=true:=fun v hv=>by
    simp only[List.mem_cons,List.not_mem_nil,or_false] at hv
    rcases hv with rfl|rfl|rfl<;>rfl
   have hclt:=En.chk_lt kind key.length val.length
   have hcc:∀ w',Calls Tryz.prog 39 #[.agg #[b8 kind,.slice A1 key.length c1',.slice A2 val.length c2']] w' fun e w''=>e= .returned (.int .i64 (En.chk kind key.length val.length))∧Below w'.heap.size w' w'':=fun w'=>JR kind A1 A2 key.length c1' val.length c2' w'
   generalize En.chk kind key.length val.length=f at hcc hclt hfold
   have hp9:=(Blk.new wr 36 [b8 kind,.slice A1 key.length c1',.slice A2 val.length c2']).whole
   have HB:=hid (gro HI.out.2 (Qb wr (.cells [b8 kind,.slice A1 key.length c1',.slice A2 val.length c2'].toArray 36)))
   have HC:=hid hcc
   have HX:=hid hfold
   clear hr hr1 hr2 hx hp hc1 hc2 hL hcc hfold hlb
   have hf4:f=0∨f=1∨f=2∨f=3:=by omega
   have he4:ee=0∨ee=1∨ee=2∨ee=3:=by omega
   clear hclt helt
   rcases hf4 with rfl|rfl|rfl|rfl<;>rcases he4 with rfl|rfl|rfl|rfl
   all_goals
    go_wp2_with (first
     |((with_reducible refine Qf 36 (.tmp 26) g (o+j*3) _ 3 _ rfl hp2 Tryz.underlying36 rfl (by kernel_rfl) ?_ ?_ ?_ ?_);rfl;rfl;rfl)
     |((with_reducible refine Qw 36 (.tmp 9) (.tmp 27) _ _ [b8 kind,.slice A1 key.length c1',.slice A2 val.length c2'] 3 rfl ?_ (by kernel_rfl) hoc ?_ ?_ ?_ ?_ ?_);rfl;rfl;rfl;rfl;rfl)
     |((with_reducible refine Qf 36 (.tmp 9) wr.heap.size 0 _ 3 _ rfl hp9 Tryz.underlying36 rfl (by kernel_rfl) ?_ ?_ ?_ ?_);rfl;rfl;rfl)
     |(go_at_call 39
       refine (HC.out _).mono ?_
       rintro e7 w7 ⟨rfl,hk⟩
       have H7:=hid (gro HB.out hk);clear hk))
    go_roundg (gk-1)
    case measure=>omega
    case rel=>exact⟨j+1,_,by omega,by go_num,rfl,by decide,HX.out.symm,H7.out⟩
  ·obtain rfl:j=es.length:=by omega
   have hb:=HI.out.1
   rw[List.take_length] at hb
   have hbf:ee=En.all es:=hb
   clear hb
   have HZ:=hid hbf
   clear hbf
   have he4:ee=0∨ee=1∨ee=2∨ee=3:=by omega
   clear helt
   have hbw:Below w.heap.size w wr:=gro H2.out.1 HI.out.2
   have hsw:=H2.out.2.grown HI.out.2
   have hl0:∀ x∈[Qd (Sn.root n [])],x.length=65:=fun x hx=>by rw[List.mem_singleton] at hx;subst hx;exact hsw.len
   have HB:=hid (Qa hbw hsw)
   clear hbw hsw
   rcases he4 with rfl|rfl|rfl|rfl
   case inr.inl=>
    go_wp2_with fail
    go_ret2
    exact⟨HB.out.1,.inl ⟨by rw[← HZ.out];decide,by rw[← HZ.out];rfl⟩⟩
   case inr.inr.inl=>
    go_wp2_with fail
    go_ret2
    exact⟨HB.out.1,.inl ⟨by rw[← HZ.out];decide,by rw[← HZ.out];rfl⟩⟩
   case inr.inr.inr=>
    go_wp2_with fail
    go_ret2
    exact⟨HB.out.1,.inl ⟨by rw[← HZ.out];decide,by rw[← HZ.out];rfl⟩⟩
   case inl=>
    go_wp2_with (first
     |(go_at_call 29
       refine (XH wr HB.out.2 (by simp)).mono ?_
       rintro e w3 ⟨rfl,hb3⟩
       have H3:=hid hb3
       clear hb3)
     |((with_reducible refine QY 24 42 1 #[(0,.tmp 47)] [Qd (Sn.root n [])] 65 (by decide) hl0 rfl (by decide) (by decide) Tryz.underlying24 (by kernel_rfl) ?_ ?_ ?_ ?_);rfl;rfl;rfl))
    go_loopg [6,7,11,51] es.length (fun g s6 s7 s11 i wq=>∃ (j q' S':Nat) (Ar:Option Addr) (cr:Nat),j+g=es.length∧i= .int .i64 j∧s6=ptr q'∧s7= .int .i64 0∧s11= .slice Ar (j+1:Nat) cr∧QJ S' wq n q' (es.take j) (Rl n es j)∧wq.ownsRow w.heap.size 42 65 (.slice Ar (j+1) cr) (j+1) (QI (Rl n es j)).flatten∧Below w.heap.size w wq)
    case atStart=>
     refine⟨0,q,w.heap.size,_,1,by omega,rfl,rfl,rfl,rfl,?_,?_,gro HB.out.1 (gro H3.out (Qb _ _))⟩
     ·rw[Qav];exact HB.out.2.grown (gro H3.out (Qb _ _))
     ·rw[Qav]
      have:=Qga w3 w.heap.size 42 65 (Qd (Sn.root n [])) (by simpa using hl0 _ (List.mem_singleton.2 rfl)) (gro HB.out.1 H3.out).size
      simpa [QI] using this
    case round=>
     obtain⟨j,q',S',Ar,cr,hj,rfl,rfl,rfl,rfl,hs,ho,hbl⟩:=hrel
     have HR:=hid (Qa hs (Qa ho hbl))
     clear hs ho hbl
     by_cases hlt:j<es.length
     ·obtain⟨kind,key,val,hjj⟩:∃ kind key val,es[j]?=some ⟨kind,key,val⟩:=⟨es[j].kind,es[j].key,es[j].val,by simp[hlt]⟩
      have hL:=HA.out.2.2.len
      have hjl:j<L.length:=by omega
      obtain⟨g,o,rfl,hr⟩:=HA.out.2.1 (by
       intro e
       have:=Qk 3 _ HA.out.2.2.three
       rw[e] at this
       simp at this;omega)
      have hp:=Qt hr HA.out.2.2.three j hjl
      obtain⟨A1,c1',A2,c2',hx,hr1,hr2,hc1,hc2⟩:=HA.out.2.2.at_ j L[j] ⟨kind,key,val⟩ (by simp[hjl]) hjj
      rw[hx] at hp
      simp only[] at hp
      have hlb:=Qo hp (by simp)
      have hp2:=Qh hp HR.out.2.2 hlb
      have hea:Xu w [b8 kind,.slice A1 key.length c1',.slice A2 val.length c2'] ⟨kind,key,val⟩:=⟨A1,c1',A2,c2',rfl,hr1,hr2,hc1,hc2⟩
      have hsub:es.take (j+1)=es.take j++[⟨kind,key,val⟩]:=by rw[List.take_succ_eq_append_getElem hlt,(List.getElem?_eq_some_iff.1 hjj).2]
      have hok:=En.all_zero HZ.out.symm _ (List.mem_of_getElem? hjj)
      have hoc:∀ v∈[b8 kind,.slice A1 key.length c1',.slice A2 val.length c2'],v.oneCell'=true:=fun v hv=>by
       simp only[List.mem_cons,List.not_mem_nil,or_false] at hv
       rcases hv with rfl|rfl|rfl<;>rfl
      have hap:∀ (w':World) (g':Nat),Below w.heap.size w w'→QJ S' w' n q' (es.take j) (Rl n es j)→Rd w' (some ⟨g',0,none⟩) [[b8 kind,.slice A1 key.length c1',.slice A2 val.length c2']].flatten→Calls Tryz.prog 40 #[ptr q',.agg #[.int .u64 j,.slice (some ⟨g',0,none⟩) 1 1]] w' fun e w''=>∃ b',e= .returned (.tuple #[ptr b',.int .i64 0])∧Below w'.heap.size w' w''∧QJ w'.heap.size w'' n b' (es.take (j+1)) (Rl n es (j+1)):=fun w' g' hb hs hr=>by
       have:=Va S' q' n h1 h2 (es.take j) [⟨kind,key,val⟩] (Rl n es j) (some ⟨g',0,none⟩) 1 [[b8 kind,.slice A1 key.length c1',.slice A2 val.length c2']] w' (HA.out.1.below hb) hs hr ⟨rfl,fun i x p hx hp=>by
        cases i with
        |zero=>simp at hx hp;subst hx hp;exact hea.grown hb
        |succ i=>simp at hx⟩ (by simp;omega) (by rw[WL];omega) (En.one_ok _ (by simp;omega) _ hok)
       rw[← hsub,←Qau,List.length_take,Nat.min_eq_left (by omega)] at this
       exact this
      have HAP:=hid hap
      clear hap hr hr1 hr2 hx hp hsub hok hea hc1 hc2 hL hlb
      go_upto_region 17 with (first
       |((with_reducible refine Qf 36 (.tmp 54) g (o+j*3) _ 3 _ rfl hp2 Tryz.underlying36 rfl (by kernel_rfl) ?_ ?_ ?_ ?_);rfl;rfl;rfl)
       |((with_reducible refine Qw 36 (.tmp 13) (.tmp 55) _ _ [b8 kind,.slice A1 key.length c1',.slice A2 val.length c2'] 3 rfl ?_ (by kernel_rfl) hoc ?_ ?_ ?_ ?_ ?_);rfl;rfl;rfl;rfl;rfl))
      refine Qe (fun w'=>w'.rangeAt wr.heap.size 0 [b8 kind,.slice A1 key.length c1',.slice A2 val.length c2']∧Below wr.heap.size wr w') ⟨(Blk.new wr _ _).whole,Qb _ _⟩ ?_
      rintro wa ⟨hxr,hba⟩
      have HQ:=hid hba
      clear hba hp2 hoc
      have hl3:∀ x∈[[b8 kind,.slice A1 key.length c1',.slice A2 val.length c2']],x.length=3:=fun x hx=>by rw[List.mem_singleton] at hx;subst hx;rfl
      have hwr:IntKind.u64.wrap (j:Int)=(j:Int):=by rw[IntKind.wrap_u64];omega
      have hone:∀ v∈[Qd (Sn.root n (es.take (j+1)))].flatten,v.oneCell'=true:=fun v hv=>Jf (Sn.root n (es.take (j+1))) v (by simpa using hv)
      have h63:j+1+1≤maxLen:=by simp only[maxLen];omega
      have hby:(j+1+1)*72≤140737488355328:=by omega
      go_wp2_with (first
       |((with_reducible refine Qf 36 (.tmp 13) wr.heap.size 0 _ 3 _ rfl hxr Tryz.underlying36 rfl (by kernel_rfl) ?_ ?_ ?_ ?_);rfl;rfl;rfl)
       |((with_reducible refine QY 22 36 1 #[(0,.tmp 60)] [[b8 kind,.slice A1 key.length c1',.slice A2 val.length c2']] 3 (by decide) hl3 rfl (by decide) (by decide) Tryz.underlying22 (by kernel_rfl) ?_ ?_ ?_ ?_);rfl;rfl;rfl)
       |(go_at_call 40
         refine (HAP.out _ _ (gro HR.out.2.2 (gro HQ.out (Qb _ _))) (HR.out.1.grown (gro HQ.out (Qb _ _))) (Rd.of _ (Blk.new wa _ _).whole)).mono ?_
         rintro e w7 ⟨q2,rfl,hb7,hs7⟩
         have hsz:=(gro HQ.out (Qb wa (.cells [[b8 kind,.slice A1 key.length c1',.slice A2 val.length c2']].flatten.toArray 36))).size
         have H7:=hid (Qa (gro (gro HQ.out (Qb _ _)) hb7) (Qa hs7 hsz))
         clear hb7 hs7 hsz)
       |(go_at_call 29
         refine (XH w7 H7.out.2.1 (by rw[WL];omega)).mono ?_
         rintro e w8 ⟨rfl,hb8⟩
         have hl65:∀ x∈[Qd (Sn.root n (es.take (j+1)))],x.length=65:=(fun x hx=>by rw[List.mem_singleton] at hx;subst hx;exact H7.out.2.1.len)
         have hl65b:[Qd (Sn.root n (es.take (j+1)))].flatten.length=1*65:=(by simpa using H7.out.2.1.len)
         have hb89:=gro hb8 (Qb w8 (.cells [Qd (Sn.root n (es.take (j+1)))].flatten.toArray 42))
         have own8:=Qg HR.out.2.1 (gro H7.out.1 hb89)
         have hr8:=Rd.of _ (Blk.new w8 42 [Qd (Sn.root n (es.take (j+1)))].flatten).whole
         have hbs8:=(gro HR.out.2.2 (gro H7.out.1 hb89)).size
         have H8:=hid (Qa hb89 (Qa own8 hr8))
         clear hb8 hb89 own8 hr8)
       |((with_reducible refine QY 24 42 1 #[(0,.tmp 71)] [Qd (Sn.root n (es.take (j+1)))] 65 (by decide) hl65 rfl (by decide) (by decide) Tryz.underlying24 (by kernel_rfl) ?_ ?_ ?_ ?_);rfl;rfl;rfl)
       |((with_reducible refine Q1 (.tmp 69) (.tmp 72) 24 Tryz.underlying24 VJ rfl (by decide) H8.out.2.1 1 1 hl65b H8.out.2.2 hone h63 hby hbs8 ?_ ?_ ?_ ?_ ?_);rfl;rfl;rfl;rfl
         intro v9 w9 hn1 hn2 hn3 hn4
         obtain⟨A9,c9,rfl,hr9,hc9⟩:=QC hn1
         have hs9:=(H7.out.2.1.grown H8.out.1).row H8.out.2.1 (fun k hk=>Nat.lt_of_lt_of_le (HR.out.2.1.lt k hk).2 H7.out.2.2) hn2
         have hb9:=QB H8.out.2.1 (gro HR.out.2.2 (gro H7.out.1 H8.out.1)) hbs8 hn2
         have H9:=hid (Qa hn1 (Qa hs9 hb9))
         clear hn1 hn2 hn3 hn4 hr9 hc9 hs9 hb9))
      go_roundg (gk-1)
      case measure=>omega
      case rel=>
       refine⟨j+1,q2,_,A9,c9,by omega,by go_num,rfl,rfl,rfl,H9.out.2.1,?_,H9.out.2.2⟩
       rw[Qau,Yo]
       simpa using H9.out.1
     ·obtain rfl:j=es.length:=by omega
      obtain⟨A9,c9,e9,hr9,-⟩:=QC HR.out.2.1
      simp only[Value.slice.injEq] at e9
      obtain⟨rfl,-,rfl⟩:=e9
      have HE9:=hid (Qa hr9 (XO HR.out.2.1))
      clear hr9
      go_wp2_with fail
      go_ret2
      exact⟨HR.out.2.2,.inr ⟨HZ.out.symm,Ar,cr,rfl,HE9.out⟩⟩
theorem Qb5 (n:Nat)(h1:1≤n)(h2:n≤32)(es:List Ent)(A:Option Addr)(c:Nat)(L:List (List Value))(w:World)(hw:Qs w)(hA:Rd w A L.flatten)(hE:QK w L es)(hn:es.length+2<1048576):
 Calls Tryz.prog 9 #[.int .i64 n,.slice A es.length c] w fun e w'=>Below w.heap.size w w'∧((En.all es≠0∧e= .returned (.tuple #[.slice none 0 0,.int .i64 (En.all es)]))∨(En.all es=0∧∃ Ar cr,e= .returned (.tuple #[.slice Ar (es.length+1) cr,.int .i64 0])∧Rd w' Ar (QI (Rl n es es.length)).flatten)):=
 (Yp n h1 h2 es A c L w hw hA hE hn).mono fun _ _ ⟨hb,h⟩=>⟨hb,h.imp id fun⟨h0,Ar,cr,e,hr,_⟩=>⟨h0,Ar,cr,e,hr⟩⟩
theorem Qaw (k:Nat):madeCells (Value.int .u8 0).cells (k*1)=(List.replicate k (b8 0)).toArray:=by
 apply Array.ext_getElem?
 intro i
 by_cases h:i<k
 ·simp[madeCells,h,Value.cells,Nat.mod_one]
  rfl
 ·rw[Array.getElem?_eq_none (by rw[size_madeCells];omega),Array.getElem?_eq_none (by simp;omega)]
theorem Yq (k:Nat)(hk:k≤140737488355328)(w:World):(Instr.makeSlice 34 (.int .i64 k) (.int .i64 k)).run Tryz.prog w= .ok (.slice (some ⟨w.heap.size,0,none⟩) k k) (w.alloc (.cells (List.replicate k (b8 0)).toArray 5)):=by
 obtain⟨i,hi,hz,hsize,hby⟩:=info_parts JP
 have:=run_make (P:=Tryz.prog) w 34 5 i (.int .u8 0) Tryz.underlying34 hi hz .i64 .i64 k k (by omega) (by omega) (by rw[hby];omega) (by omega)
 rw[this]
 simp only[Int.toNat_natCast,hsize,Qaw]
theorem KA (A:Option Addr)(c:Nat)(l:List UInt8)(w:World)(h:Rd w A (l.map b8))(hl:l.length≤140737488355328):
 Calls Tryz.prog 15 #[.slice A l.length c] w fun e w'=>Yg 5 w l.length (l.map b8) e w':=by
 have hmk:=Yq l.length hl
 have hb:=Blk.new w 5 (List.replicate l.length (b8 0))
 have hr:=h.grown (Qb w (.cells (List.replicate l.length (b8 0)).toArray 5))
 have hbl:=Qb w (.cells (List.replicate l.length (b8 0)).toArray 5)
 rw[List.toArray_replicate] at hb hr hbl
 have HB:=hid (Qa hb (Qa hr hbl))
 clear hb hr h hbl
 go_enter Tryz.func15,Tryz.ntmps15
 go_wp2_with (first
  |((with_reducible refine Zc ?_ (.tmp 7) (.tmp 8) 34 34 ?_ _ Tryz.underlying34 ?_ (some ⟨w.heap.size,0,none⟩) A l.length l.length l.length c ?_ ?_ w.heap.size 0 _ _ HB.out.1 (l.map b8) ?_ ?_ HB.out.2.1 ?_ (Qi _) ?_);rfl;rfl;kernel_rfl;rfl;rfl;simp;(intro _;rfl);simp
    intro w2 hb2 hk2
    have H2:=hid (Qa hb2 hk2)
    clear hb2 hk2))
 go_ret
 have hbk:=H2.out.1
 rw[XL _ _ (by simp)] at hbk
 have hbl:Below w.heap.size w w2:=Qu.step (S:=(· =w.heap.size)) HB.out.2.2 H2.out.2 (by simp) (fun k hk e=>by omega)
 exact⟨_,_,rfl,hbl,Rd.of _ hbk.whole,Nat.le_refl _,fun a e=>by cases e;exact Nat.le_refl _,hbk.tyd⟩
theorem WM {w:World}{g:Nat}{cs:List Value}(h:Blk w g 36 cs)(i:Nat)(u:Value):QQ Xr w (w.setCell ⟨g,i,none⟩ u):=JY h (by decide) i u
theorem Qb6 (x:List Value)(e:Ent)(w:World)(h:Xu w x e)(hk:e.key.length≤140737488355328)(hv:e.val.length≤140737488355328):
 Calls Tryz.prog 41 #[.agg x.toArray] w fun ee w'=>∃ y,ee= .returned (.agg y.toArray)∧Below w.heap.size w w'∧XJ w' y e:=by
 obtain⟨A1,c1,A2,c2,rfl,h1,h2,h3,h4⟩:=h
 have hkc:∀ w',Below w.heap.size w w'→Calls Tryz.prog 15 #[.slice A1 e.key.length c1] w' (Yg 5 w' e.key.length (e.key.map b8)):=fun w' hb=>KA A1 c1 e.key w' (h1.grown hb) (by omega)
 have hvc:∀ w',Below w.heap.size w w'→Calls Tryz.prog 15 #[.slice A2 e.val.length c2] w' (Yg 5 w' e.val.length (e.val.map b8)):=fun w' hb=>KA A2 c2 e.val w' (h2.grown hb) (by omega)
 have HK:=hid hkc
 have HV:=hid hvc
 clear hkc hvc h1 h2 h3 h4
 have hb1:=Blk.new w 36 [b8 e.kind,.slice A1 e.key.length c1,.slice A2 e.val.length c2]
 have hb2:=Blk.new (w.alloc (.cells #[b8 e.kind,.slice A1 e.key.length c1,.slice A2 e.val.length c2] 36)) 36 [.int .u8 0,.slice none 0 0,.slice none 0 0]
 rw[show (w.alloc (.cells #[b8 e.kind,.slice A1 e.key.length c1,.slice A2 e.val.length c2] 36)).heap.size=w.heap.size+1 by simp] at hb2
 have HB0:=hid (Qa (hb1.alloc (.cells #[.int .u8 0,.slice none 0 0,.slice none 0 0] 36)) (Qa hb2 (gro (Qb w (.cells #[b8 e.kind,.slice A1 e.key.length c1,.slice A2 e.val.length c2] 36)) (Qb _ (.cells #[.int .u8 0,.slice none 0 0,.slice none 0 0] 36)))))
 clear hb1 hb2
 go_enter Tryz.func41,Tryz.ntmps41
 go_upto_region 1 with fail
 refine Qe (fun w'=>Blk w' w.heap.size 36 [b8 e.kind,.slice A1 e.key.length c1,.slice A2 e.val.length c2]∧Blk w' (w.heap.size+1) 36 [.int .u8 0,.slice none 0 0,.slice none 0 0]∧Below w.heap.size w w') HB0.out ?_
 rintro w1 ⟨hb1,hb2,hbl⟩
 have HS:∀ w',Blk w' w.heap.size 36 [b8 e.kind,.slice A1 e.key.length c1,.slice A2 e.val.length c2]→w'.cell? ⟨w.heap.size,0,none⟩=some (b8 e.kind)∧w'.cell? ⟨w.heap.size,1,none⟩=some (.slice A1 e.key.length c1)∧w'.cell? ⟨w.heap.size,2,none⟩=some (.slice A2 e.val.length c2):=fun w' h=>⟨by rw[h.cell];rfl,by rw[h.cell];rfl,by rw[h.cell];rfl⟩
 have hd:Below w1.heap.size w1 w1.drew:=(Below.refl _ _).drew
 have HT:=hid (Qa HS (Qa hd (Qa hb1 (Qa hb2 hbl))))
 clear HS hd hb1 hb2 hbl HB0
 go_region_held3 (fun w'=>w'.cell? ⟨w.heap.size,0,none⟩=some (b8 e.kind)∧w'.cell? ⟨w.heap.size,1,none⟩=some (.slice A1 e.key.length c1)∧w'.cell? ⟨w.heap.size,2,none⟩=some (.slice A2 e.val.length c2))
  (first|exact HT.out.1 _ (HT.out.2.2.1.grown HT.out.2.1)|exact HT.out.1 _ (HT.out.2.2.1.grown H5.out.1)|exact HT.out.1 _ (HT.out.2.2.1.grown K4.out.1)|exact HT.out.1 _ (HN.out.1 _ _ _)|exact HT.out.1 _ (HT.out.2.2.1.grown V4.out.1))
  (first
    |(go_at_call 15
      with_reducible refine Calls.mono (HV.out _ (gro HT.out.2.2.2.2 K4.out.1)) ?_
      rintro ee w5 ⟨A6,c6,rfl,hb5,hr6,hc6,-,ht6⟩
      have H5:=hid (Qa (gro K4.out.1 hb5) (Qa (K4.out.2.1.grown hb5) (Qa hr6 (Qa K4.out.2.2.1 (Qa hc6 (Qa (K4.out.2.2.2.grown hb5) ht6))))))
      have hbx:=(HT.out.2.2.2.1.grown H5.out.1)
      have k0:w5.cell? ⟨w.heap.size+1,0,none⟩=some (.int .u8 0):=(by rw[hbx.cell];rfl)
      have k1:w5.cell? ⟨w.heap.size+1,1,none⟩=some (.slice none 0 0):=(by rw[hbx.cell];rfl)
      have k2:w5.cell? ⟨w.heap.size+1,2,none⟩=some (.slice none 0 0):=(by rw[hbx.cell];rfl)
      have f0:=hbx.frozen 0
      have f1:=hbx.frozen 1
      have f2:=hbx.frozen 2
      have hS3:∀ u v t,Blk (((w5.setCell ⟨w.heap.size+1,0,none⟩ u).setCell ⟨w.heap.size+1,1,none⟩ v).setCell ⟨w.heap.size+1,2,none⟩ t) w.heap.size 36 [b8 e.kind,.slice A1 e.key.length c1,.slice A2 e.val.length c2]:=(fun u v t=>(((HT.out.2.2.1.grown H5.out.1).far (by show w.heap.size≠w.heap.size+1;omega) u).far (by show w.heap.size≠w.heap.size+1;omega) v).far (by show w.heap.size≠w.heap.size+1;omega) t)
      have HN:=hid (Qa hS3 hbx)
      clear hb5 hr6 hc6 ht6 hbx hS3)
    |(go_at_call 15
      with_reducible refine Calls.mono (HK.out _ (gro HT.out.2.2.2.2 V4.out.1)) ?_
      rintro ee w5 ⟨A5,c5,rfl,hb5,hr6,hc6,-,ht6⟩
      have H5:=hid (Qa (gro V4.out.1 hb5) (Qa hr6 (Qa (V4.out.2.1.grown hb5) (Qa hc6 (Qa V4.out.2.2.1 (Qa ht6 (V4.out.2.2.2.grown hb5)))))))
      have hbx:=(HT.out.2.2.2.1.grown H5.out.1)
      have k0:w5.cell? ⟨w.heap.size+1,0,none⟩=some (.int .u8 0):=(by rw[hbx.cell];rfl)
      have k1:w5.cell? ⟨w.heap.size+1,1,none⟩=some (.slice none 0 0):=(by rw[hbx.cell];rfl)
      have k2:w5.cell? ⟨w.heap.size+1,2,none⟩=some (.slice none 0 0):=(by rw[hbx.cell];rfl)
      have f0:=hbx.frozen 0
      have f1:=hbx.frozen 1
      have f2:=hbx.frozen 2
      have hS3:∀ u v t,Blk (((w5.setCell ⟨w.heap.size+1,0,none⟩ u).setCell ⟨w.heap.size+1,1,none⟩ v).setCell ⟨w.heap.size+1,2,none⟩ t) w.heap.size 36 [b8 e.kind,.slice A1 e.key.length c1,.slice A2 e.val.length c2]:=(fun u v t=>(((HT.out.2.2.1.grown H5.out.1).far (by show w.heap.size≠w.heap.size+1;omega) u).far (by show w.heap.size≠w.heap.size+1;omega) v).far (by show w.heap.size≠w.heap.size+1;omega) t)
      have HN:=hid (Qa hS3 hbx)
      clear hb5 hr6 hc6 ht6 hbx hS3)
    |(go_at_call 15
      with_reducible refine Calls.mono (HK.out _ (gro HT.out.2.2.2.2 HT.out.2.1)) ?_
      rintro ee w4 ⟨A5,c5,rfl,hb5,hr6,hc6,-,ht6⟩
      have K4:=hid (Qa (gro HT.out.2.1 hb5) (Qa hr6 (Qa hc6 ht6)))
      clear hb5 hr6 hc6 ht6)
    |(go_at_call 15
      with_reducible refine Calls.mono (HV.out _ (gro HT.out.2.2.2.2 HT.out.2.1)) ?_
      rintro ee w4 ⟨A6,c6,rfl,hb5,hr6,hc6,-,ht6⟩
      have V4:=hid (Qa (gro HT.out.2.1 hb5) (Qa hr6 (Qa hc6 ht6)))
      clear hb5 hr6 hc6 ht6))
 all_goals
  go_wp2_with fail
  have hb3:=((HN.out.2.set_ 0 (b8 e.kind)).set_ 1 (.slice A5 e.key.length c5)).set_ 2 (.slice A6 e.val.length c6)
  have hbl:=(((gro HT.out.2.2.2.2 H5.out.1).setCell (p:=⟨w.heap.size+1,0,none⟩) (Nat.le_succ _) (b8 e.kind)).setCell (p:=⟨w.heap.size+1,1,none⟩) (Nat.le_succ _) (.slice A5 e.key.length c5)).setCell (p:=⟨w.heap.size+1,2,none⟩) (Nat.le_succ _) (.slice A6 e.val.length c6)
  have hst:=((WM HN.out.2 0 (b8 e.kind)).trans (WM (HN.out.2.set_ 0 (b8 e.kind)) 1 (.slice A5 e.key.length c5))).trans (WM ((HN.out.2.set_ 0 (b8 e.kind)).set_ 1 (.slice A5 e.key.length c5)) 2 (.slice A6 e.val.length c6))
  have het:XJ w5 [b8 e.kind,.slice A5 e.key.length c5,.slice A6 e.val.length c6] e:=⟨A5,c5,A6,c6,rfl,H5.out.2.1,H5.out.2.2.1,H5.out.2.2.2.1,H5.out.2.2.2.2.1,TyB.zero H5.out.2.2.2.2.2.1,TyB.zero H5.out.2.2.2.2.2.2⟩
  exact QD (w.heap.size+1) 0 [b8 e.kind,.slice A5 e.key.length c5,.slice A6 e.val.length c6] 3 _ rfl hb3.whole Tryz.underlying36 rfl (by kernel_rfl) rfl rfl rfl ⟨_,rfl,hbl,het.stay hst⟩
end Go.Proofs.YtpnakfeafekneaaGreatDoor
