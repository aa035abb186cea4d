/- Part 27 of this proof. -/
import Derived.Test.YtpnakfeafekneaaGreatDoorG26
set_option linter.unusedSimpArgs false
set_option linter.unusedVariables false
set_option maxHeartbeats 8000000
set_option maxRecDepth 100000
namespace Go.Proofs.YtpnakfeafekneaaGreatDoor
open Go.RowKit
theorem VJ:(Tryz.prog.info? 42).map (fun i=>(i.zero,i.size,i.bytes))=some (some (.agg (.int .u64 0 :: List.replicate 64 (.int .u8 0)).toArray),65,72):=YR
theorem Qf7 (parts:List (Nat×Value)):Tryz.prog.built 42 parts=Instr.fill ((#[(0,1),(1,32),(33,32)]:Array (Nat×Nat))[·]?) ([Value.int .u64 0]++(List.replicate 32 (b8 0)++List.replicate 32 (b8 0))).toArray parts:=by kernel_rfl
theorem Us [Inhabited LoT](s:Nat)(l m:List UInt8)(hl:l.length=32)(hm:m.length=32):Tryz.prog.built 42 [(0,.int .u64 s),(1,dg l),(2,dg m)]=some (Qd ⟨s,l,m⟩).toArray:=by
 have hL:(l.map b8).length=32:=by simp[hl]
 have hM:(m.map b8).length=32:=by simp[hm]
 rw[Qf7,QE _ _ 0 _ _ 0 1 rfl [.int .u64 s] rfl rfl (by simp),Q6 [Value.int .u64 s] [Value.int .u64 0] _ rfl,
  QE _ _ 1 _ _ 1 32 rfl (l.map b8) rfl hL (by simp),QM _ _ _ _ (by simp),
  show splice (List.replicate 32 (b8 0)++List.replicate 32 (b8 0)) (1-[Value.int .u64 s].length) (l.map b8)=l.map b8++List.replicate 32 (b8 0) from Q6 _ _ _ (by simp[hl]),
  QE _ _ 2 _ _ 33 32 rfl (m.map b8) rfl hM (by simp[hl]),QM _ _ _ _ (by simp),
  show splice (l.map b8++List.replicate 32 (b8 0)) (33-[Value.int .u64 s].length) (m.map b8)=l.map b8++m.map b8 from by
   rw[QM _ _ _ _ (by simp[hl])]
   congr 1
   simp only[List.length_map,hl,List.length_cons,List.length_nil]
   exact XL _ _ (by simp[hm])]
 rfl
theorem log_len (n:Nat)(h2:n≤32)(ds:List (List UInt8))(hf:XZ n ds):(Mt.log n ds).length=32:=by
 unfold Mt.log
 split
 ·exact Dg.sum_length _ _ h2
 ·cases ds with
  |nil=>exact Dg.sum_length _ _ h2
  |cons d r=>exact (hf d (by simp)).1
theorem QT.fits {w:World}{b n:Nat}{ds:List (List UInt8)}(h:QT w b n ds):XZ n ds:=by
 obtain⟨A,c,bs,ts,h1,h2,h3,h4,h5,h6,h7⟩:=h;exact h7
theorem Yo (rs:List Rt)(r:Rt):(QI (rs++[r])).flatten=(QI rs).flatten++Qd r:=by simp[QI]
theorem XK {P:Program}{ops:Array Oper}{o:Oper}{a:Act}{w:World}{K:Act→World→Prop}{Q:Exit→Act→World→Prop}{E:Prop}(s x:Operand)(t:TypeId){base:Nat}{e:TypeId}{z:Value}{size bytes:Nat}
 (ht:P.underlying t=some (.slice e)) (hinfo:(P.info? e).map (fun i=>(i.zero,i.size,i.bytes))=some (some z,size,bytes)) (hzs:z.cells.size=size) (hsz:0<size)
 {v:Value} {n:Nat} {xs:List Value} (hown:w.ownsRow base e size v n xs) {A:Option Addr} (m c:Nat) {news:List Value} (hl:news.length=m*size) (hr:Rd w A news) (h1:∀ u∈news,u.oneCell'=true)
 (h63:n+m≤maxLen) (hbytes:(n+m)*bytes≤140737488355328) (hbase:base≤w.heap.size)
 (hgd:o.guard=none) (ho:o.op= .call {callee:= .builtin .append,args:= #[s,x],argTypes:= #[t,t]}) (hs:a.eval s=v) (hx:a.eval x= .slice A m c)
 (h:∀ v' w',w'.ownsRow base e size v' (n+m) (xs++news)→w.grownBy w' v.ownBlock→(v'.ownBlock=v.ownBlock∨v'.ownBlock=some w.heap.size)→K (a.put o.dst v') w'):
 if Region.wanted o (yielded ops a.tmps)=true then Oper.wp P o a w K Q else E:=by
 have hw:Region.wanted o (yielded ops a.tmps)=true:=by simp[Region.wanted,hgd]
 rw[if_pos hw]
 obtain⟨v',w',hrn,h2,h3,h4,h5⟩:=Qak (P:=P) (ty:=o.type) ht hinfo hzs hsz hown c hl hr h1 h63 hbytes hbase
 unfold Oper.wp execOp
 simp only[ho,resolve,invoke,builtin,Sem.run_bind,Sem.run_pure,Result.andThen_ok,List.map_toArray,List.map_cons,List.map_nil,hs,hx,hrn]
 exact h v' w' h2 h3 h4
theorem JZ [Inhabited LoT](s:Nat)(l m:List UInt8)(hl:l.length=32)(hm:m.length=32)(w:World):(Instr.build 42 #[(0,.int .u64 s),(1,dg l),(2,dg m)]).run Tryz.prog w= .ok (.agg (Qd ⟨s,l,m⟩).toArray) w:=
 run_build (P:=Tryz.prog) w _ #[(0,.int .u64 s),(1,dg l),(2,dg m)] _ (Us s l m hl hm)
theorem Ky {P:Program}(t e:TypeId)(x:List Value)(s:Nat)(hs:0<s)(hl:x.length=s)(hsmall:s≤2^24)(hu:P.underlying t=some (.slice e))(hinfo:(P.info? e).map (fun i=>(i.size,i.zero.isSome))=some (s,true))(w:World):
 (Instr.buildSlice t 1 #[(0,.agg x.toArray)]).run P w= .ok (.slice (some ⟨w.heap.size,0,none⟩) 1 1) (w.alloc (.cells x.toArray e)):=by
 cases hie:P.info? e with
 |none=>simp[hie] at hinfo
 |some ie=>
  simp only[hie,Option.map_some,Option.some.injEq,Prod.mk.injEq] at hinfo
  obtain⟨hsz,hz⟩:=hinfo
  obtain⟨z,hzz⟩:=Option.isSome_iff_exists.1 hz
  obtain⟨r,hr,hrs,hk⟩:=Great.fill_dense hs [Value.agg x.toArray] 0 ((Array.range (1*s)).map (z.cells[· % z.cells.size]!)) (fun v hv=>by
   rw[List.mem_singleton] at hv;subst hv
   simp[Value.cells,hl]) (by simp)
  have e1:r=x.toArray:=by
   apply Array.ext_getElem?
   intro k
   rw[hk]
   simp only[Nat.zero_mul,Nat.zero_le,true_and,List.length_cons,List.length_nil,Nat.zero_add,Nat.sub_zero,Nat.one_mul]
   by_cases hk':k<s
   ·rw[if_pos hk',List.getElem?_toArray,Nat.div_eq_of_lt hk',Nat.mod_eq_of_lt hk']
    simp[Value.cells]
   ·rw[if_neg hk',Array.getElem?_eq_none (by simp;omega),Array.getElem?_eq_none (by simp;omega)]
  subst e1
  refine run_buildSlice w t e 1 _ _ ie z hu hie hzz (by rw[hsz];omega) (by rw[hsz];omega) ?_
  rw[hsz]
  simpa using hr
@[go_sem] def Qg8:Op:= .load 24 (.tmp 21)
attribute [-go_sem] Instr.build Instr.buildSlice in
theorem Ut [Inhabited LoT](B b tb mb n:Nat)(h1:1≤n)(h2:n≤32)(ds:List (List UInt8))(m:List Pr)(eV pV:Value)(rs:List Rt)(w:World)(hb:Blk w b 100 [ptr tb,ptr mb,eV,pV])(ht:QT w tb n ds)(hm:Xl w n mb m)(hown:w.ownsRow B 42 65 pV rs.length (QI rs).flatten)(hB:B≤w.heap.size)(hw:Qs w)(hds:ds.length<1048576)(hrs:rs.length<1048576):
 Calls Tryz.prog 67 #[ptr b] w fun e w'=>e= .returned (ptr b)∧Qu (fun k=>k=b∨pV.ownBlock=some k) w w'∧∃ pV',Blk w' b 100 [ptr tb,ptr mb,eV,pV']∧w'.ownsRow B 42 65 pV' (rs.length+1) (QI (rs++[⟨ds.length,Mt.log n ds,Hm.root n m⟩])).flatten∧(pV'.ownBlock=pV.ownBlock∨∀ k,pV'.ownBlock=some k→w.heap.size≤k):=by
 have hll:=log_len n h2 ds ht.fits
 have hml:=JX n h2 m
 have HLL:=hid (show ((Mt.log n ds).map b8).length=32 by simp[hll])
 have HBT:=hid (Us ds.length (Mt.log n ds) (Hm.root n m) hll hml)
 have HBR:=hid (JZ ds.length (Mt.log n ds) (Hm.root n m) hll hml)
 have HRT:=hid (show (Qd ⟨ds.length,Mt.log n ds,Hm.root n m⟩).length=65∧∀ y∈[Qd ⟨ds.length,Mt.log n ds,Hm.root n m⟩],y.length=65 from⟨XG ⟨hll,hml,by show ds.length<_;omega⟩,fun y hy=>by rw[List.mem_singleton] at hy;subst hy;exact XG ⟨hll,hml,by show ds.length<_;omega⟩⟩)
 have q0:=Fut.cell (show w.cell? ⟨b,0,none⟩=some (ptr tb) from by rw[hb.cell];rfl)
 have hsz:∀ (w1:World),Below w.heap.size w w1→∀ s:Fut w1,Calls Tryz.prog 106 #[ptr tb] s.v fun e w''=>e= .returned (.int .u64 ds.length)∧∃ s':Fut w1,w''=s'.v:=fun w1 hb1 s=>Calls.fut_same (Kq tb n ds s.v (ht.grown (gro hb1 s.below)))
 have hrt:∀ (w1:World),Below w.heap.size w w1→∀ s:Fut w1,Calls Tryz.prog 105 #[ptr tb,.int .u64 ds.length] s.v fun e w''=>e= .returned (.tuple #[dg (Mt.log n ds),.int .i64 0])∧∃ s':Fut w1,w''=s'.v:=fun w1 hb1 s=>Calls.fut_of (Qbv tb n ds s.v (ht.grown (gro hb1 s.below)) h1 h2 (by omega) (hw.below (gro hb1 s.below)))
 have hmr:∀ (w1:World),Below w.heap.size w w1→∀ s:Fut w1,Calls Tryz.prog 107 #[ptr mb] s.v fun e w''=>e= .returned (dg (Hm.root n m))∧∃ s':Fut w1,w''=s'.v:=fun w1 hb1 s=>Calls.fut_of (Y6 mb n h1 h2 m s.v (hw.below (gro hb1 s.below)) (hm.grown (gro hb1 s.below)))
 have HC:=hid (Qa hsz (Qa hrt hmr))
 have HA:=hid (Qa hb (Qa ht (Qa hm (Qa hown (Qa hw hB)))))
 clear hsz hrt hmr hb ht hm hown hw hll hml q0
 go_enter Tryz.func67,Tryz.ntmps67
 go_upto_region 1 with fail
 refine ZY 15 13 14 11 _ _ _ 40 (List.replicate 32 (b8 0)) ((Mt.log n ds).map b8) (.agg (List.replicate 32 (b8 0)).toArray) 3 16
  {tmps:= #[ptr b,undef,.pointer none,undef,undef,.tuple #[dg (Mt.log n ds),.int .i64 0],ptr b,ptr b,ptr b,ptr tb,ptr b,ptr b,ptr b,ptr tb,.int .u64 ds.length,.tuple #[dg (Mt.log n ds),.int .i64 0],dg (Mt.log n ds),.int .i64 0,undef,undef,undef,undef,undef,undef,undef,undef,undef,undef,undef,undef,undef,undef,undef,undef,undef,undef,undef,undef,undef,undef],defers:=[]}
  (by kernel_rfl) rfl rfl rfl rfl rfl rfl rfl rfl (by kernel_rfl) rfl (by rw[HLL.out];kernel_rfl) (by rw[HLL.out];simp) (Qi _) rfl rfl (by decide) (by decide) (by decide) (by decide) (by kernel_rfl) (by kernel_rfl) (fun g=>by kernel_rfl) (by kernel_rfl) rfl (by simp) ?h ?ht
 case h=>
  intro w2 g hb2 hg
  have q0:=Fut.cell (w:=w2) (show w2.cell? ⟨b,0,none⟩=some (ptr tb) from by rw[(HA.out.1.grown hb2).cell];rfl)
  have hq:=HC.out.1 w2 hb2
  have hq2:=HC.out.2.1 w2 hb2
  have HQ:=hid (Qa hq hq2)
  clear hq hq2
  dsimp only[Zt,List.take_succ_cons,List.take_zero,List.drop_succ_cons,List.drop_zero,List.set_cons_zero,List.set_cons_succ]
  repeat (go_big_quiet_step (first|(with_reducible exact HQ.out.1 _)|(with_reducible exact HQ.out.2 _)))
  exact wpQuiet_nil rfl
 case ht=>
  intro g w2 hg hb2 hgb
  have hr3:=hgb.whole
  have HE:=hid (Qa hb2 (Qa hgb hg))
  clear hb2 hgb hg
  dsimp only[List.drop_succ_cons,List.drop_zero]
  simp only[Act.put,List.setIfInBounds_toArray,List.set_cons_zero,List.set_cons_succ]
  go_upto_region 2 with fail
  have hbw2:=HA.out.1.grown HE.out.1
  have q0:=Fut.cell (w:=w2) (show w2.cell? ⟨b,0,none⟩=some (ptr tb) from by rw[hbw2.cell];rfl)
  have q1:=Fut.cell (w:=w2) (show w2.cell? ⟨b,1,none⟩=some (ptr mb) from by rw[hbw2.cell];rfl)
  have q3:=Fut.cell (w:=w2) (show w2.cell? ⟨b,3,none⟩=some pV from by rw[hbw2.cell];rfl)
  clear q0 q1 q3
  have HS:∀ w',Below w2.heap.size w2 w'→w'.cell? ⟨b,0,none⟩=some (ptr tb)∧w'.cell? ⟨b,1,none⟩=some (ptr mb)∧w'.rangeAt g 0 ((Mt.log n ds).map b8):=fun w' hb=>by
   have h:=hbw2.grown hb
   exact⟨by rw[h.cell];rfl,by rw[h.cell];rfl,Qm hr3 hb⟩
  have hd:Below w2.heap.size w2 w2.drew:=(Below.refl _ _).drew
  have k3:w2.cell? ⟨b,3,none⟩=some pV:=by rw[hbw2.cell];rfl
  have hts:=Kq tb n ds w2.drew (HA.out.2.1.grown (gro HE.out.1 hd))
  have hmr:=Y6 mb n h1 h2 m w2.drew (HA.out.2.2.2.2.1.below (gro HE.out.1 hd)) (HA.out.2.2.1.grown (gro HE.out.1 hd))
  have HT:=hid (Qa HS (Qa hd (Qa hts (Qa hmr hbw2))))
  clear HS hd hts hmr hbw2 hr3
  have hu:=Tryz.underlying40
  have hi:(Tryz.prog.info? 40).map (·.size)=some ((Mt.log n ds).map b8).length:=by rw[HLL.out];exact Xy
  have hl:=HLL.out
  have hone:=Qi (Mt.log n ds)
  have hbr:∀ w,(Instr.build 42 #[(0,.int .u64 ds.length),(1,.agg ((Mt.log n ds).map b8).toArray),(2,dg (Hm.root n m))]).run Tryz.prog w= .ok (.agg (Qd ⟨ds.length,Mt.log n ds,Hm.root n m⟩).toArray) w:=HBR.out
  have hbs:=Ky (P:=Tryz.prog) 24 42 (Qd ⟨ds.length,Mt.log n ds,Hm.root n m⟩) 65 (by decide) HRT.out.1 (by decide) Tryz.underlying24 (by kernel_rfl)
  generalize hG:Instr.buildSlice 24 1 #[(0,.agg (Qd ⟨ds.length,Mt.log n ds,Hm.root n m⟩).toArray)]=G at hbs
  have HK:∀ w6 w9:World,Below w2.heap.size w2 w6→w6.grownBy w9 pV.ownBlock→(w9.cell? ⟨b,0,none⟩=some (ptr tb)∧w9.cell? ⟨b,1,none⟩=some (ptr mb)∧w9.rangeAt g 0 ((Mt.log n ds).map b8))∧(∀ u,(w9.setCell ⟨b,3,none⟩ u).cell? ⟨b,0,none⟩=some (ptr tb)∧(w9.setCell ⟨b,3,none⟩ u).cell? ⟨b,1,none⟩=some (ptr mb)∧(w9.setCell ⟨b,3,none⟩ u).rangeAt g 0 ((Mt.log n ds).map b8))∧Blk w9 b 100 [ptr tb,ptr mb,eV,pV]:=fun w6 w9 h6 h9=>by
   have hb6:=HT.out.2.2.2.2.grown h6
   have hg6:=HE.out.2.1.grown h6
   have hw6:=Qg HA.out.2.2.2.1 (gro HE.out.1 h6)
   have hk9:=Qn h9
   have hb9:=hk9.blk hb6 (Xz hw6 hb6 (by decide))
   have hg9:=hk9.blk hg6 (Xz hw6 hg6 (by decide))
   have hgb:=Blk.ne_type hb9 hg9 (by decide)
   refine⟨⟨by rw[hb9.cell];rfl,by rw[hb9.cell];rfl,hg9.whole⟩,fun u=>?_,hb9⟩
   have hb':=hb9.set_ 3 u
   exact⟨by rw[hb'.cell];rfl,by rw[hb'.cell];rfl,(hg9.far hgb u).whole⟩
  have HKK:=hid HK
  clear HK
  have hinfo:(Tryz.prog.info? 42).map (fun i=>(i.zero,i.size,i.bytes))=some (some (.agg (.int .u64 0 :: List.replicate 64 (.int .u8 0)).toArray),65,72):=VJ
  rw[show Op.load 24 (.tmp 21)=Qg8 from rfl]
  go_region_held3 (fun w'=>w'.cell? ⟨b,0,none⟩=some (ptr tb)∧w'.cell? ⟨b,1,none⟩=some (ptr mb)∧w'.rangeAt g 0 ((Mt.log n ds).map b8))
   (first|exact HT.out.1 _ HT.out.2.1|exact HT.out.1 _ H5.out|exact HT.out.1 _ (H5.out.alloc H5.out.size _)|exact HN.out.2.2.2.1.1|exact HN.out.2.2.2.1.2.1 _)
   (first
     |(refine XK (.tmp 22) (.tmp 35) 24 Tryz.underlying24 VJ rfl (by decide) (Qg HA.out.2.2.2.1 (gro HE.out.1 (H5.out.alloc H5.out.size _))) 1 1 (news:=Qd ⟨ds.length,Mt.log n ds,Hm.root n m⟩) HRT.out.1 (Rd.of _ (Blk.new w5 _ _).whole) (Jf _) (by simp only[maxLen];omega) (by omega) (Nat.le_trans HA.out.2.2.2.2.2 (gro HE.out.1 (H5.out.alloc H5.out.size _)).size) rfl rfl rfl rfl ?_
       intro v9 w9 hn1 hn2 hn3
       obtain⟨A9,c9,rfl,hr9,hc9⟩:=QC hn1
       clear hr9 hc9
       have hk9:=HKK.out _ _ (H5.out.alloc H5.out.size _) hn2
       have k9:w9.cell? ⟨b,3,none⟩=some pV:=(by rw[hk9.2.2.cell];rfl)
       have f9:=hk9.2.2.frozen 3
       have HN:=hid (Qa hn1 (Qa hn2 (Qa hn3 (Qa hk9 (H5.out.alloc H5.out.size (.cells (Qd ⟨ds.length,Mt.log n ds,Hm.root n m⟩).toArray 42))))))
       clear hn1 hn2 hn3 hk9)
     |(go_at_call 106;refine HT.out.2.2.1.mono ?_;rintro e w4 ⟨rfl,rfl⟩)
     |(go_at_call 107;refine HT.out.2.2.2.1.mono ?_;rintro e w5 ⟨rfl,hb5⟩;have k5:w5.cell? ⟨b,3,none⟩=some pV:=(by rw[(HT.out.2.2.2.2.grown (gro HT.out.2.1 hb5)).cell];rfl);have k6:∀ o,(w5.alloc o).cell? ⟨b,3,none⟩=some pV:=(fun o=>by rw[((HT.out.2.2.2.2.grown (gro HT.out.2.1 hb5)).alloc o).cell];rfl);have H5:=hid (gro HT.out.2.1 hb5);clear hb5))
  all_goals
   go_wp2_with fail
   go_ret
   have hkp:=Qn HN.out.2.1
   have hk1:Qu (fun k=>k=b∨pV.ownBlock=some k) w w9:=(Qu.of_grown (gro HE.out.1 HN.out.2.2.2.2)).trans (hkp.mono fun k _ hk=> .inr hk)
   have hk2:Qu (fun k=>k=b∨pV.ownBlock=some k) w (w9.setCell ⟨b,3,none⟩ (.slice A9 (rs.length+1) c9)):=hk1.setCell (.inl (.inl rfl)) _
   have hne:(Value.slice A9 (rs.length+1) c9).ownBlock≠some b:=Xz HN.out.1 HN.out.2.2.2.1.2.2 (by decide)
   refine⟨rfl,hk2,_,HN.out.2.2.2.1.2.2.set_ 3 _,?_,?_⟩
   ·rw[Yo]
    exact XM (S:=(· =b)) HN.out.1 ((Qu.refl _ _).set1 3 _) fun k hk e=>by subst e;exact hne hk
   ·rcases HN.out.2.2.1 with h|h
    ·exact .inl h
    ·refine .inr fun k hk=>?_
     rw[h] at hk
     cases hk
     exact (gro HE.out.1 HN.out.2.2.2.2).size
def QJ [Inhabited LoT](S:Nat)(w:World)(n b:Nat)(es:List Ent)(rs:List Rt):Prop:=
 ∃ tb mb A c L Ap cp,Blk w b 100 [ptr tb,ptr mb,.slice A es.length c,.slice Ap rs.length cp]∧QT w tb n (Sn.leaves n es)∧Xl w n mb (Sn.map n es)∧(Rd w A L.flatten∧QZ w L es∧Tyd w 36 A)∧(Rd w Ap (QI rs).flatten∧Tyd w 42 Ap∧∀ a,Ap=some a→S≤a.block)∧rs.getLast?=some (Sn.root n es)∧∀ r∈rs,Je r
theorem QJ.grown [Inhabited LoT]{S:Nat}{w w':World}{n b:Nat}{es:List Ent}{rs:List Rt}(h:QJ S w n b es rs)(hb:Below w.heap.size w w'):QJ S w' n b es rs:=by
 obtain⟨tb,mb,A,c,L,Ap,cp,h1,h2,h3,⟨h4,h5,h6⟩,⟨h7,h8,h8'⟩,h9⟩:=h
 exact⟨tb,mb,A,c,L,Ap,cp,h1.grown hb,h2.grown hb,h3.grown hb,⟨h4.grown hb,h5.grown hb,h6.grown hb⟩,⟨h7.grown hb,h8.grown hb,h8'⟩,h9⟩
theorem Sn.root_ok [Inhabited LoT](n:Nat)(h2:n≤32)(es:List Ent)(hf:XZ n (Sn.leaves n es))(hl:es.length<1048576):Je (Sn.root n es):=
 ⟨log_len n h2 _ hf,JX n h2 _,by show es.length<_;omega⟩
theorem J0 [Inhabited LoT](B b tb mb n:Nat)(h1:1≤n)(h2:n≤32)(es:List Ent)(A:Option Addr)(c:Nat)(L:List (List Value))(pV:Value)(rs:List Rt)(w:World)
 (hb:Blk w b 100 [ptr tb,ptr mb,.slice A es.length c,pV]) (ht:QT w tb n (Sn.leaves n es)) (hm:Xl w n mb (Sn.map n es)) (hr:Rd w A L.flatten) (he:QZ w L es) (hty:Tyd w 36 A) (hown:w.ownsRow B 42 65 pV rs.length (QI rs).flatten) (hB:B≤b) (hw:Qs w) (hok:∀ r∈rs,Je r) (hel:es.length<1048576) (hrs:rs.length<1048576):
 Calls Tryz.prog 67 #[ptr b] w fun e w'=>e= .returned (ptr b)∧Below B w w'∧QJ B w' n b es (rs++[Sn.root n es]):=by
 have hBw:B≤w.heap.size:=Nat.le_trans hB (Nat.le_of_lt hb.lt)
 refine (Ut B b tb mb n h1 h2 (Sn.leaves n es) (Sn.map n es) (.slice A es.length c) pV rs w hb ht hm hown hBw hw (by simpa [Sn.leaves] using hel) hrs).mono ?_
 rintro e w' ⟨rfl,hk,pV',hb',hown',hno⟩
 have hS:∀ k,(k=b∨pV.ownBlock=some k)→∃ t cc fz,w.heap[k]?=some (.cells cc t fz)∧(t=100∨t=42):=by
  rintro k (rfl|hk')
  ·exact⟨_,_,_,hb,.inl rfl⟩
  ·obtain⟨A2,c2,rfl,-,-⟩:=QC hown
   cases A2 with
   |none=>cases hk'
   |some a=>
    obtain⟨cc,fz,hh⟩:=XO hown a rfl
    have:a.block=k:=by simpa [Value.ownBlock] using hk'
    subst this
    exact⟨_,_,_,hh,.inr rfl⟩
 have hP:QQ Xr w w':=QQ.pure_of_kept hk fun k hs=>by
  obtain⟨t,cc,fz,hh,ht'⟩:=hS k hs
  exact⟨t,cc,fz,hh,by rcases ht' with rfl|rfl<;>decide⟩
 have hE:QQ (fun t=>t=36) w w':=QQ.of_kept hk fun k hs t' cc' fz' hh'=>by
  obtain⟨t,cc,fz,hh,ht'⟩:=hS k hs
  rw[hh] at hh'
  cases hh'
  rcases ht' with rfl|rfl<;>decide
 obtain⟨Ap,cp,rfl,hr2,-⟩:=QC hown'
 have hlen:(rs++[Sn.root n es]).length=rs.length+1:=by simp
 have hbel:Below B w w':=hk.below hBw fun k hk0 hs=>by
  rcases hs with rfl|hs
  ·omega
  ·have:=(hown.lt k hs).1;omega
 have hsn:(⟨(Sn.leaves n es).length,Mt.log n (Sn.leaves n es),Hm.root n (Sn.map n es)⟩:Rt)=Sn.root n es:=by simp[Sn.root,Sn.leaves]
 rw[hsn] at hr2 hown'
 refine⟨rfl,hbel,tb,mb,A,c,L,Ap,cp,by rw[hlen];exact hb',ht.stay hP,hm.stay hP,⟨hE.rd hr hty rfl,he.stay hP,hE.tyd hty rfl⟩,⟨hr2,XO hown',fun a ha=>(hown'.lt a.block (by rw[ha];rfl)).1⟩,by simp,fun r hr'=>?_⟩
 rcases List.mem_append.1 hr' with h|h
 ·exact hok r h
 ·rw[List.mem_singleton] at h
  subst h
  exact Sn.root_ok n h2 es ht.fits hel
theorem Qat [Inhabited LoT](n:Nat)(h1:1≤n)(h2:n≤32)(w:World)(hw:Qs w)(hlo:Lo≤w.heap.size):
 Calls Tryz.prog 38 #[.int .i64 n] w fun e w'=>∃ b,e= .returned (.tuple #[ptr b,.int .i64 0])∧Below w.heap.size w w'∧QJ w.heap.size w' n b [] [Sn.root n []]:=by
 have HW:=hid hw
 have HLO:=hid hlo
 clear hw hlo
 go_enter Tryz.func38,Tryz.ntmps38
 go_wp2_with (first
  |(go_at_call 67
    refine (J0 w.heap.size _ w.heap.size mb n h1 h2 [] none 0 [] (.slice none 0 0) [] _ (Blk.new w3 _ [ptr w.heap.size,ptr mb,.slice none 0 0,.slice none 0 0]) (((H2.out.2.grown H3.out.1)).grown (Qb _ _)) (H3.out.2.grown (Qb _ _)) (Rd.nil _ _) ⟨rfl,fun i x p h=>by simp at h⟩ (Tyd.none _ _) (World.ownsRow_nil _ _ _ _) (gro H2.out.1 H3.out.1).size (HW.out.below (gro (gro H2.out.1 H3.out.1) (Qb _ _))) (fun r hr=>by cases hr) (by decide) (by decide)).mono ?_
    rintro e w4 ⟨rfl,hb4,hs4⟩
    have H4:=hid (Qa ((gro (gro H2.out.1 H3.out.1) (Qb w3 (.cells #[ptr w.heap.size,ptr mb,.slice none 0 0,.slice none 0 0] 100))).trans hb4) hs4)
    clear hb4 hs4)
  |(go_at_call 66
    refine (Qfz n h1 h2 _ (Nat.le_trans HLO.out H2.out.1.size)).mono ?_
    rintro e w3 ⟨mb,rfl,hb3,hm3⟩
    have H3:=hid (Qa hb3 hm3)
    clear hb3 hm3)
  |(go_at_call 65
    refine (Qfm n h1 h2 w).mono ?_
    rintro e w2 ⟨rfl,hb2,ht2⟩
    have H2:=hid (Qa hb2 ht2)
    clear hb2 ht2))
 go_ret2
 exact⟨_,rfl,H4.out.1,H4.out.2⟩
section
variable {w w':World}
theorem QQ.mono {T T':TypeId→Prop}(h:QQ T w w')(ht:∀ t,T' t→T t):QQ T' w w':=fun k t c fz hT hh=>h k t c fz (ht t hT) hh
theorem QQ.own {T:TypeId→Prop}(h:QQ T w w'){base:Nat}{e:TypeId}{size n:Nat}{v:Value}{xs:List Value}(ho:w.ownsRow base e size v n xs)(ht:T e):w'.ownsRow base e size v n xs:=by
 refine⟨ho.1,ho.2.imp id ?_⟩
 rintro⟨g,cap,cur,h1,h2,h3,h4⟩
 exact⟨g,cap,cur,h1,h2,h _ _ _ _ ht h3,h4⟩
def But (x:TypeId)(w w':World):Prop:=QQ (fun t=>t≠x) w w'
theorem But.append {x:TypeId}{base size n:Nat}{v:Value}{xs:List Value}(ho:w.ownsRow base x size v n xs)(hg:w.grownBy w' v.ownBlock):But x w w':=
 QQ.of_kept (Qn hg) fun k hk t c fz hh hne=>by
  obtain⟨A,cp,rfl,-,-⟩:=QC ho
  cases A with
  |none=>cases hk
  |some a=>
   obtain⟨cc,fz',hh'⟩:=XO ho a rfl
   have:a.block=k:=by simpa [Value.ownBlock] using hk
   subst this
   rw[hh'] at hh
   cases hh
   exact hne rfl
theorem But.set {x:TypeId}{g:Nat}{cs:List Value}(hb:Blk w g x cs)(i:Nat)(u:Value):But x w (w.setCell ⟨g,i,none⟩ u):=
 QQ.of_kept (S:=(· =g)) ((Qu.refl _ _).set1 i u) fun k hk t c fz hh hne=>by
  subst hk
  have hb':w.heap[k]?=_:=hb
  rw[hb'] at hh
  cases hh
  exact hne rfl
theorem But.pure [Inhabited LoT]{x:TypeId}(h:But x w w')(hx:¬Xr x):QQ Xr w w':=h.mono fun t ht e=>hx (e▸ht)
end
def Mk [Inhabited LoT](B n:Nat)(w:World)(q:Nat)(es:List Ent)(m:List Pr)(rs:List Rt)(ds:List (List UInt8))(vL:Value)(mb:Nat)(eV pV:Value):Prop:=
 ∃ L,Blk w q 100 [.pointer none,ptr mb,eV,pV]∧Xl w n mb m∧QZ w L es∧w.ownsRow B 36 3 eV es.length L.flatten∧w.ownsRow B 42 65 pV rs.length (QI rs).flatten∧w.ownsRow B 40 32 vL ds.length (dgs ds).flatten∧B≤q
section
variable {B n q:Nat} {w w':World} {es:List Ent} {m:List Pr} {rs:List Rt} {ds:List (List UInt8)} {vL:Value} {mb:Nat} {eV pV:Value}
theorem Mk.grown [Inhabited LoT](h:Mk B n w q es m rs ds vL mb eV pV)(hb:Below w.heap.size w w'):Mk B n w' q es m rs ds vL mb eV pV:=by
 obtain⟨L,h1,h2,h3,h4,h5,h6,h7⟩:=h
 exact⟨L,h1.grown hb,h2.grown hb,h3.grown hb,Qg h4 hb,Qg h5 hb,Qg h6 hb,h7⟩
theorem Mk.blk [Inhabited LoT](h:Mk B n w q es m rs ds vL mb eV pV):Blk w q 100 [.pointer none,ptr mb,eV,pV]:=h.choose_spec.1
theorem Mk.map [Inhabited LoT](h:Mk B n w q es m rs ds vL mb eV pV):Xl w n mb m:=h.choose_spec.2.1
theorem Mk.leaves [Inhabited LoT](h:Mk B n w q es m rs ds vL mb eV pV):w.ownsRow B 40 32 vL ds.length (dgs ds).flatten:=by obtain⟨L,h1,h2,h3,h4,h5,h6,h7⟩:=h;exact h6
theorem Mk.ents [Inhabited LoT](h:Mk B n w q es m rs ds vL mb eV pV):∃ L,QZ w L es∧w.ownsRow B 36 3 eV es.length L.flatten:=by obtain⟨L,h1,h2,h3,h4,h5,h6,h7⟩:=h;exact⟨L,h3,h4⟩
theorem Mk.base [Inhabited LoT](h:Mk B n w q es m rs ds vL mb eV pV):B≤w.heap.size:=by obtain⟨L,h1,h2,h3,h4,h5,h6,h7⟩:=h;have:=h1.lt;omega
theorem Mk.entry [Inhabited LoT](h:Mk B n w q es m rs ds vL mb eV pV){L:List (List Value)}(hL:QZ w L es)(ho:w.ownsRow B 36 3 eV es.length L.flatten){x:List Value}{e:Ent}(hx:XJ w x e){eV':Value}(hn:w'.ownsRow B 36 3 eV' (es.length+1) (L.flatten++x))(hg:w.grownBy w' eV.ownBlock):
 Mk B n (w'.setCell ⟨q,2,none⟩ eV') q (es++[e]) m rs ds vL mb eV' pV:=by
 obtain⟨-,h1,h2,-,-,h5,h6,h7⟩:=h
 have s1:=But.append ho hg
 have p1:=s1.pure (by decide)
 have hb:=s1.blk h1 (by decide)
 have s2:=But.set hb 2 eV'
 have p2:=s2.pure (by decide)
 have p:=p1.trans p2
 refine⟨L++[x],hb.set_ 2 eV',h2.stay p,(hL.append (QZ.one hx)).stay p,?_,s2.own (s1.own h5 (by decide)) (by decide),s2.own (s1.own h6 (by decide)) (by decide),h7⟩
 rw[List.length_append,List.flatten_append]
 simpa using s2.own hn (by decide)
theorem Mk.ge [Inhabited LoT](h:Mk B n w q es m rs ds vL mb eV pV):B≤q:=by obtain⟨L,h1,h2,h3,h4,h5,h6,h7⟩:=h;exact h7
theorem Mk.entry_blk [Inhabited LoT](h:Mk B n w q es m rs ds vL mb eV pV)(hg:w.grownBy w' eV.ownBlock):Blk w' q 100 [.pointer none,ptr mb,eV,pV]:=by
 obtain⟨L,h1,h2,h3,h4,h5,h6,h7⟩:=h
 exact (But.append h4 hg).blk h1 (by decide)
theorem Mk.leaf [Inhabited LoT](h:Mk B n w q es m rs ds vL mb eV pV)(d:List UInt8){vL':Value}(hn:w'.ownsRow B 40 32 vL' (ds.length+1) ((dgs ds).flatten++d.map b8))(hg:w.grownBy w' vL.ownBlock):
 Mk B n w' q es m rs (ds++[d]) vL' mb eV pV:=by
 obtain⟨L,h1,h2,h3,h4,h5,h6,h7⟩:=h
 have s1:=But.append h6 hg
 have p1:=s1.pure (by decide)
 refine⟨L,s1.blk h1 (by decide),h2.stay p1,h3.stay p1,s1.own h4 (by decide),s1.own h5 (by decide),?_,h7⟩
 rw[List.length_append]
 simpa [dgs] using hn
theorem Mk.put [Inhabited LoT](h:Mk B n w q es m rs ds vL mb eV pV){mb':Nat}{m':List Pr}(hm:Xl w n mb' m'):Mk B n (w.setCell ⟨q,1,none⟩ (ptr mb')) q es m' rs ds vL mb' eV pV:=by
 obtain⟨L,h1,h2,h3,h4,h5,h6,h7⟩:=h
 have s2:=But.set h1 1 (ptr mb')
 have p2:=s2.pure (by decide)
 exact⟨L,h1.set_ 1 _,hm.stay p2,h3.stay p2,s2.own h4 (by decide),s2.own h5 (by decide),s2.own h6 (by decide),h7⟩
theorem QB {size k:Nat}{e:TypeId}{v:Value}{xs:List Value}{w0:World}(ho:w.ownsRow B e size v k xs)(hb:Below B w0 w)(hB:B≤w.heap.size)(hg:w.grownBy w' v.ownBlock):Below B w0 w':=
 (Qn hg).step hb hB fun i hi hs=>by have:=(ho.lt i hs).1;omega
theorem Kz {w0:World}(hq:B≤q)(hb:Below B w0 w)(i:Nat)(u:Value):Below B w0 (w.setCell ⟨q,i,none⟩ u):=hb.setCell (p:=⟨q,i,none⟩) hq u
end
theorem Mk.entry_step [Inhabited LoT]{B n q N:Nat}{w0 wr w7 w9:World}{es:List Ent}{m:List Pr}{rs:List Rt}{ds:List (List UInt8)}{vL:Value}{mb:Nat}{eV eV2 pV:Value}(h:Mk B n wr q es m rs ds vL mb eV pV){L:List (List Value)}(hL:QZ wr L es)(hN:N=es.length)(ho:wr.ownsRow B 36 3 eV N L.flatten)(hb7:Below wr.heap.size wr w7){cs:List Value}(hx:Blk w7 wr.heap.size 36 cs){y:List Value}{e:Ent}(hy:XJ w7 y e)
 (hn:w9.ownsRow B 36 3 eV2 (N+1) (L.flatten++y)) (hg:w7.grownBy w9 eV.ownBlock) (hB:Below B w0 wr) (hBw:B≤wr.heap.size):
 Blk w9 wr.heap.size 36 cs∧(w9.cell? ⟨q,2,none⟩=some eV∧w9.frozen? ⟨q,2,none⟩=false)∧(∀ u,Blk (w9.setCell ⟨q,2,none⟩ u) wr.heap.size 36 cs)∧Mk B n (w9.setCell ⟨q,2,none⟩ eV2) q (es++[e]) m rs ds vL mb eV2 pV∧Below B w0 (w9.setCell ⟨q,2,none⟩ eV2):=by
 subst hN
 have h7:=h.grown hb7
 have ho7:=Qg ho hb7
 have hm9:=h7.entry (hL.grown hb7) ho7 hy hn hg
 have hq9:=h7.entry_blk hg
 have hx9:Blk w9 wr.heap.size 36 cs:=(Qn hg).blk hx (fun hk=>by have:=(ho.lt _ hk).2;omega)
 have hne:=Blk.ne_type hq9 hx9 (by decide)
 have hB7:Below B w0 w7:=hB.trans (hb7.mono hBw)
 exact⟨hx9,⟨by rw[hq9.cell];rfl,hq9.frozen 2⟩,fun u=>hx9.far hne u,hm9,Kz h.ge (QB ho7 hB7 (Nat.le_trans hBw hb7.size) hg) 2 _⟩
theorem Mk.put_step [Inhabited LoT]{B n q x:Nat}{w0 wr w7:World}{es:List Ent}{m m':List Pr}{rs:List Rt}{ds:List (List UInt8)}{vL:Value}{mb mb':Nat}{eV pV:Value}(h:Mk B n wr q es m rs ds vL mb eV pV)(hb7:Below wr.heap.size wr w7)(hm:Xl w7 n mb' m'){cs:List Value}(hx:Blk wr x 36 cs)(hB:Below B w0 wr):
 Blk w7 x 36 cs∧(w7.cell? ⟨q,1,none⟩=some (ptr mb)∧w7.frozen? ⟨q,1,none⟩=false)∧(∀ u,Blk (w7.setCell ⟨q,1,none⟩ u) x 36 cs)∧Mk B n (w7.setCell ⟨q,1,none⟩ (ptr mb')) q es m' rs ds vL mb' eV pV∧Below B w0 (w7.setCell ⟨q,1,none⟩ (ptr mb')):=by
 have h7:=h.grown hb7
 have hq:=h7.blk
 have hx7:=hx.grown hb7
 have hne:=Blk.ne_type hq hx7 (by decide)
 exact⟨hx7,⟨by rw[hq.cell];rfl,hq.frozen 1⟩,fun u=>hx7.far hne u,h7.put hm,Kz h.ge (hB.trans (hb7.mono h.base)) 1 _⟩
theorem Mk.leaf_step [Inhabited LoT]{B n q x:Nat}{w0 wr w7 w9:World}{es:List Ent}{m:List Pr}{rs:List Rt}{ds:List (List UInt8)}{vL vL2:Value}{mb:Nat}{eV pV:Value}(h:Mk B n wr q es m rs ds vL mb eV pV)(hb7:Below wr.heap.size wr w7){cs:List Value}(hx:Blk wr x 36 cs)(d:List UInt8)
 (hn:w9.ownsRow B 40 32 vL2 (ds.length+1) ((dgs ds).flatten++[d.map b8].flatten)) (hg:w7.grownBy w9 vL.ownBlock) (hB:Below B w0 wr):
 Blk w9 x 36 cs∧Mk B n w9 q es m rs (ds++[d]) vL2 mb eV pV∧Below B w0 w9:=by
 have h7:=h.grown hb7
 have ho7:=h7.leaves
 exact⟨(But.append ho7 hg).blk (hx.grown hb7) (by decide),h7.leaf d (by simpa using hn) hg,QB ho7 (hB.trans (hb7.mono h.base)) (Nat.le_trans h.base hb7.size) hg⟩
theorem Mk.finish [Inhabited LoT]{B n q:Nat}{wr w7:World}{es:List Ent}{m:List Pr}{rs:List Rt}{ds:List (List UInt8)}{vL:Value}{mb tb:Nat}{eV pV:Value}(h:Mk B n wr q es m rs ds vL mb eV pV)(hm:m=Sn.map n es)(hb7:Below wr.heap.size wr w7)(ht:QT w7 tb n (Sn.leaves n es))(h1:1≤n)(h2:n≤32)(hw:Qs (w7.setCell ⟨q,0,none⟩ (ptr tb)))(hok:∀ r∈rs,Je r)(hel:es.length<1048576)(hrs:rs.length<1048576):
 (w7.cell? ⟨q,0,none⟩=some (.pointer none)∧w7.frozen? ⟨q,0,none⟩=false)∧Calls Tryz.prog 67 #[ptr q] (w7.setCell ⟨q,0,none⟩ (ptr tb)) fun e w'=>e= .returned (ptr q)∧Below B (w7.setCell ⟨q,0,none⟩ (ptr tb)) w'∧QJ B w' n q es (rs++[Sn.root n es]):=by
 subst hm
 obtain⟨L,g1,g2,g3,g4,g5,g6,g7⟩:=h.grown hb7
 refine⟨⟨by rw[g1.cell];rfl,g1.frozen 0⟩,?_⟩
 have s2:=But.set g1 0 (ptr tb)
 have p2:=s2.pure (by decide)
 have o4:=s2.own g4 (by decide)
 obtain⟨A,c,rfl,hr,-⟩:=QC o4
 exact J0 B q tb mb n h1 h2 es A c L pV rs _ (g1.set_ 0 (ptr tb)) (ht.stay p2) (g2.stay p2) hr (g3.stay p2) (XO o4) (s2.own g5 (by decide)) g7 hw hok hel hrs
theorem Qf8 (k:List UInt8)(m:List Pr):(Hm.del k m).length≤m.length:=by unfold Hm.del;exact List.length_filter_le _ _
theorem map_len [Inhabited LoT](n:Nat)(es:List Ent):(Sn.map n es).length≤es.length:=by
 unfold Sn.map
 suffices h:∀ (es:List Ent) (m:List Pr),(es.foldl (Sn.step n) m).length≤m.length+es.length by simpa using h es []
 intro es
 induction es with
 |nil=>intro m;simp
 |cons e es ih=>
  intro m
  have h1:=ih (Sn.step n m e)
  have h2:(Sn.step n m e).length≤m.length+1:=by
   unfold Sn.step
   split
   ·exact ins_len n _ m
   ·have:=Qf8 e.key m;omega
  simp only[List.foldl_cons,List.length_cons]
  omega
end Go.Proofs.YtpnakfeafekneaaGreatDoor
