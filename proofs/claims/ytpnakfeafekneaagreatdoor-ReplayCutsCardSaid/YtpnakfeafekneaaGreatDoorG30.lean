/- Part 30 of this proof. -/
import Derived.Test.YtpnakfeafekneaaGreatDoorG29
set_option linter.unusedSimpArgs false
set_option linter.unusedVariables false
set_option maxHeartbeats 8000000
set_option maxRecDepth 100000
namespace Go.Proofs.YtpnakfeafekneaaGreatDoor
open Go.RowKit
theorem WO (n:Nat)(w:World)(h2:n≤32):Calls Tryz.prog 97 #[.int .i64 n] w fun e w'=>e= .returned (dg (Dg.noLog n))∧Below w.heap.size w w':=by
 have hl:((Dg.noLog n).map b8).length=32:=by rw[List.length_map];exact Dg.sum_length n _ h2
 have HB0:=hid (Qa (Blk.new w 40 (List.replicate 32 (b8 0))) (Qb w (.cells (List.replicate 32 (b8 0)).toArray 40)))
 obtain⟨D,hD⟩:∃ D,D=Dg.noLog n:=⟨_,rfl⟩
 rw[← hD] at hl ⊢
 have HD:=hid hD
 clear hD
 go_enter Tryz.func97,Tryz.ntmps97
 go_wp2_with (first
  |(go_at_call 44
    refine (Zv n none 0 0 [] _ h2 rfl (Rd.nil _ _) (Nat.le_refl _) (by omega)).mono ?_
    rintro e w2 ⟨rfl,hb2⟩
    rw[show dg (Dg.sum n [])=dg D from by rw[HD.out];rfl]
    have ht:=(HB0.out.1.grown hb2).there 0 32 (by simp)
    have H2:=hid (gro HB0.out.2 hb2)
    clear hb2)
  |((with_reducible refine Qv 40 (.tmp 2) (.tmp 4) w.heap.size 0 _ 32 hl ht (by kernel_rfl) (Qi _) ?_ ?_ ?_ ?_ ?_);rfl;rfl;rfl;rfl))
 exact QD w.heap.size 0 _ 32 _ hl (World.rangeAt_setCells_same _ _ _ _ (by rw[hl];exact ht)) Tryz.underlying40 rfl (by kernel_rfl) rfl rfl rfl ⟨rfl,Qc _ (Nat.le_refl _) _ _ _ H2.out⟩
theorem WP (n:Nat)(w:World)(h2:n≤32):Calls Tryz.prog 16 #[.int .i64 n] w fun e w'=>e= .returned (dg (Dg.noMap n))∧Below w.heap.size w w':=by
 have hl:((Dg.noMap n).map b8).length=32:=by rw[List.length_map];exact Dg.sum_length n _ h2
 have hrd:=hid (show Rd ((w.alloc (.cells (List.replicate 32 (b8 0)).toArray 40)).alloc (.cells #[.int .u8 5] 5)) (some ⟨(w.alloc (.cells (List.replicate 32 (b8 0)).toArray 40)).heap.size,0,none⟩) ([(5:UInt8)].map b8) from Xt _ 5)
 rw[show (w.alloc (.cells (List.replicate 32 (b8 0)).toArray 40)).heap.size=w.heap.size+1 from by simp] at hrd
 have HB0:=hid (Qa ((Blk.new w 40 (List.replicate 32 (b8 0))).alloc (.cells #[.int .u8 5] 5)) (gro (Qb w (.cells (List.replicate 32 (b8 0)).toArray 40)) (Qb _ (.cells #[.int .u8 5] 5))))
 obtain⟨D,hD⟩:∃ D,D=Dg.noMap n:=⟨_,rfl⟩
 rw[← hD] at hl ⊢
 have HD:=hid hD
 clear hD
 go_enter Tryz.func16,Tryz.ntmps16
 go_wp2_with (first
  |(go_at_call 44
    refine (Zv n _ 1 1 [5] _ h2 rfl hrd.out (Nat.le_refl _) (by omega)).mono ?_
    rintro e w2 ⟨rfl,hb2⟩
    rw[show dg (Dg.sum n [5])=dg D from by rw[HD.out];rfl]
    have ht:=(HB0.out.1.grown hb2).there 0 32 (by simp)
    have H2:=hid (gro HB0.out.2 hb2)
    clear hb2)
  |((with_reducible refine Qv 40 (.tmp 2) (.tmp 5) w.heap.size 0 _ 32 hl ht (by kernel_rfl) (Qi _) ?_ ?_ ?_ ?_ ?_);rfl;rfl;rfl;rfl))
 exact QD w.heap.size 0 _ 32 _ hl (World.rangeAt_setCells_same _ _ _ _ (by rw[hl];exact ht)) Tryz.underlying40 rfl (by kernel_rfl) rfl rfl rfl ⟨rfl,Qc _ (Nat.le_refl _) _ _ _ H2.out⟩
theorem Ux (A:Option Addr)(m c:Nat)(l:List UInt8)(w:World)(hm:l.length=m)(h:Rd w A (l.map b8))(hl:m<549755813888):
 Calls Tryz.prog 147 #[.slice A m c] w (Nb w (Dg.leafIn l)):=by
 have hrd:=hid (show Rd (w.alloc (.cells #[.int .u8 0] 5)) (some ⟨w.heap.size,0,none⟩) ([(0:UInt8)].map b8) from Xt w 0)
 have HH:=hid (Qa hm h)
 clear hm h
 go_enter Tryz.func147,Tryz.ntmps147
 go_wp2_with (go_at_call 148
              refine (Xv _ 1 1 [0] A m c l _ rfl HH.out.1 hrd.out (HH.out.2.grown (Qb w _)) (by omega)).mono ?_
              rintro e w1 ⟨A1,c1,n1,hn1,rfl,hb1,ho1⟩
              have H1:=hid (Qa hn1 (Qa hb1 ho1))
              clear hn1 hb1 ho1)
 go_ret
 exact⟨A1,c1,n1,H1.out.1,rfl,gro (Qb w _) H1.out.2.1,Xi H1.out.2.2 (fun k hk=>Nat.le_trans (Qb w (.cells #[.int .u8 0] 5)).size ((H1.out.2.2.lt k hk).1))⟩
theorem WQ (A:Option Addr)(m c:Nat)(l:List UInt8)(w:World)(hm:l.length=m)(h:Rd w A (l.map b8))(hl:m<549755813888):
 Calls Tryz.prog 215 #[.slice A m c] w (Nb w (Dg.keyIn l)):=by
 have hrd:=hid (show Rd (w.alloc (.cells #[.int .u8 2] 5)) (some ⟨w.heap.size,0,none⟩) ([(2:UInt8)].map b8) from Xt w 2)
 have HH:=hid (Qa hm h)
 clear hm h
 go_enter Tryz.func215,Tryz.ntmps215
 go_wp2_with (go_at_call 148
              refine (Xv _ 1 1 [2] A m c l _ rfl HH.out.1 hrd.out (HH.out.2.grown (Qb w _)) (by omega)).mono ?_
              rintro e w1 ⟨A1,c1,n1,hn1,rfl,hb1,ho1⟩
              have H1:=hid (Qa hn1 (Qa hb1 ho1))
              clear hn1 hb1 ho1)
 go_ret
 exact⟨A1,c1,n1,H1.out.1,rfl,gro (Qb w _) H1.out.2.1,Xi H1.out.2.2 (fun k hk=>Nat.le_trans (Qb w (.cells #[.int .u8 2] 5)).size ((H1.out.2.2.lt k hk).1))⟩
theorem Qcb (n:Nat)(A:Option Addr)(m c:Nat)(l:List UInt8)(w:World)(h2:n≤32)(hm:l.length=m)(h:Rd w A (l.map b8))(hl0:m<274877906944):
 Calls Tryz.prog 100 #[.int .i64 n,.slice A m c] w fun e w'=>e= .returned (dg (Dg.leaf n l))∧Below w.heap.size w w':=by
 have hl:((Dg.leaf n l).map b8).length=32:=by rw[List.length_map];exact Dg.sum_length n _ h2
 obtain⟨D,hD⟩:∃ D,D=Dg.leaf n l:=⟨_,rfl⟩
 have hD':Dg.sum n (Dg.leafIn l)=D:=hD.symm
 rw[← hD] at hl ⊢
 have hb0:=Blk.new w 40 (List.replicate 32 (b8 0))
 have HB0:=hid (Qa hb0 hD')
 clear hb0 hD hD'
 go_enter Tryz.func100,Tryz.ntmps100
 go_wp2_with (first
  |(go_at_call 44
    refine (Zv n A1 n1 c1 (Dg.leafIn l) w1 h2 H1.out.1 H1.out.2.2.1 H1.out.2.2.2.1 (by have h9:=H1.out.1;have h8:(Dg.leafIn l).length=m+1:=(by rw[← hm];rfl);omega)).mono ?_
    rintro e w2 ⟨rfl,hb2⟩
    rw[HB0.out.2]
    have ht:=((HB0.out.1.grown H1.out.2.1).grown hb2).there 0 32 (by simp)
    have H2:=hid (gro H1.out.2.2.2.2 hb2)
    clear hb2)
  |(go_at_call 147
    refine (Ux A m c l _ hm (h.grown (Qb w _)) (by omega)).mono ?_
    rintro e w1 ⟨A1,c1,n1,hn1,rfl,hb1,ho1⟩
    have H1:=hid (Qa hn1 (Qa hb1 (Qa (QU ho1).1 (Qa (QU ho1).2 (gro (Qb w _) hb1)))))
    clear hn1 hb1 ho1)
  |((with_reducible refine Qv 40 (.tmp 4) (.tmp 8) w.heap.size 0 _ 32 hl ht (by kernel_rfl) (Qi _) ?_ ?_ ?_ ?_ ?_);rfl;rfl;rfl;rfl))
 exact QD w.heap.size 0 _ 32 _ hl (World.rangeAt_setCells_same _ _ _ _ (by rw[hl];exact ht)) Tryz.underlying40 rfl (by kernel_rfl) rfl rfl rfl ⟨rfl,Qc _ (Nat.le_refl _) _ _ _ H2.out⟩
theorem Qd6 (n:Nat)(A:Option Addr)(m c:Nat)(l:List UInt8)(w:World)(h2:n≤32)(hm:l.length=m)(h:Rd w A (l.map b8))(hl0:m<274877906944):
 Calls Tryz.prog 197 #[.int .i64 n,.slice A m c] w fun e w'=>e= .returned (dg (Dg.key n l))∧Below w.heap.size w w':=by
 have hl:((Dg.key n l).map b8).length=32:=by rw[List.length_map];exact Dg.sum_length n _ h2
 obtain⟨D,hD⟩:∃ D,D=Dg.key n l:=⟨_,rfl⟩
 have hD':Dg.sum n (Dg.keyIn l)=D:=hD.symm
 rw[← hD] at hl ⊢
 have hb0:=Blk.new w 40 (List.replicate 32 (b8 0))
 have HB0:=hid (Qa hb0 hD')
 clear hb0 hD hD'
 go_enter Tryz.func197,Tryz.ntmps197
 go_wp2_with (first
  |(go_at_call 44
    refine (Zv n A1 n1 c1 (Dg.keyIn l) w1 h2 H1.out.1 H1.out.2.2.1 H1.out.2.2.2.1 (by have h9:=H1.out.1;have h8:(Dg.keyIn l).length=m+1:=(by rw[← hm];rfl);omega)).mono ?_
    rintro e w2 ⟨rfl,hb2⟩
    rw[HB0.out.2]
    have ht:=((HB0.out.1.grown H1.out.2.1).grown hb2).there 0 32 (by simp)
    have H2:=hid (gro H1.out.2.2.2.2 hb2)
    clear hb2)
  |(go_at_call 215
    refine (WQ A m c l _ hm (h.grown (Qb w _)) (by omega)).mono ?_
    rintro e w1 ⟨A1,c1,n1,hn1,rfl,hb1,ho1⟩
    have H1:=hid (Qa hn1 (Qa hb1 (Qa (QU ho1).1 (Qa (QU ho1).2 (gro (Qb w _) hb1)))))
    clear hn1 hb1 ho1)
  |((with_reducible refine Qv 40 (.tmp 4) (.tmp 8) w.heap.size 0 _ 32 hl ht (by kernel_rfl) (Qi _) ?_ ?_ ?_ ?_ ?_);rfl;rfl;rfl;rfl))
 exact QD w.heap.size 0 _ 32 _ hl (World.rangeAt_setCells_same _ _ _ _ (by rw[hl];exact ht)) Tryz.underlying40 rfl (by kernel_rfl) rfl rfl rfl ⟨rfl,Qc _ (Nat.le_refl _) _ _ _ H2.out⟩
theorem Uy (n:Nat)(l r:List UInt8)(w:World)(h2:n≤32)(hl:l.length=32)(hr:r.length=32):
 Calls Tryz.prog 146 #[.int .i64 n,dg l,dg r] w (Nb w (Dg.nodeIn n l r)):=by
 have s1:=QH (P:=Tryz.prog) Tryz.underlying40 (by kernel_rfl) w.heap.size 0 n h2
 have s2:=QH (P:=Tryz.prog) Tryz.underlying40 (by kernel_rfl) (w.heap.size+1) 0 n h2
 have hb1:=(Blk.new w 40 (l.map b8)).alloc (.cells (r.map b8).toArray 40)
 have hb2:=Blk.new (w.alloc (.cells (l.map b8).toArray 40)) 40 (r.map b8)
 rw[show (w.alloc (.cells (l.map b8).toArray 40)).heap.size=w.heap.size+1 by simp] at hb2
 have hbl:=gro (Qb w (.cells (l.map b8).toArray 40)) (Qb _ (.cells (r.map b8).toArray 40))
 have htl:(l.take n).length=n:=by simp[hl];omega
 have htr:(r.take n).length=n:=by simp[hr];omega
 have HB0:=hid (Qa hb1 (Qa hb2 hbl))
 have HL:=hid (Qa htl htr)
 clear hb1 hb2 hbl htl htr
 go_enter Tryz.func146,Tryz.ntmps146
 go_upto_region 1 with fail
 refine Qe (fun w'=>Blk w' w.heap.size 40 (l.map b8)∧Blk w' (w.heap.size+1) 40 (r.map b8)∧Below w.heap.size w w') HB0.out ?_
 rintro w1 ⟨hb1,hb2,hbl⟩
 have hd:Below w1.heap.size w1 w1.drew:=(Below.refl _ _).drew
 have hda:Below w1.heap.size w1 (w1.alloc (.cells #[.int .u8 1] 5)).drew:=(Qb w1 (.cells #[.int .u8 1] 5)).trans (Below.refl _ _).drew
 have hcl:∀ w',Below w1.heap.size w1 w'→Calls Tryz.prog 148 #[.slice (some ⟨w.heap.size,0,none⟩) n 32,.slice (some ⟨w.heap.size+1,0,none⟩) n 32] w' (Nb w' (l.take n++r.take n)):=fun w' hb=>
  Xv _ n 32 (l.take n) _ n 32 (r.take n) w' HL.out.1 HL.out.2 (by rw[List.map_take];exact (Rd.of _ (hb1.grown hb).whole).take n) (by rw[List.map_take];exact (Rd.of _ (hb2.grown hb).whole).take n) (by omega)
 have HR1:=hid (show ∀ w4:World,Rd (w4.alloc (.cells #[.int .u8 1] 5)) (some ⟨w4.heap.size,0,none⟩) ([(1:UInt8)].map b8) from fun w4=>Xt w4 1)
 have HT:=hid (Qa hcl (Qa hd (Qa hda hbl)))
 clear hcl hd hda hbl hb1 hb2 HB0
 go_region_held3 (fun _=>True) (exact True.intro)
  (first
    |(go_at_call 148
      with_reducible refine Calls.mono (Xv (some ⟨w1.heap.size,0,none⟩) 1 1 [1] A4 n4 c4 (l.take n++r.take n) w4 rfl K4.out.2.1 K4.out.2.2.2 K4.out.2.2.1 (by have h:=K4.out.2.1;rw[List.length_append,HL.out.1,HL.out.2] at h;omega)) ?_
      rintro ee w5 ⟨A5,c5,n5,hn5,rfl,hb5,ho5⟩
      have H5:=hid (Qa hn5 (Qa (gro (gro HT.out.2.2.2 K4.out.1) hb5) (Xi ho5 (fun k hk=>Nat.le_trans (gro HT.out.2.2.2 K4.out.1).size ((ho5.lt k hk).1)))))
      clear hn5 hb5 ho5)
    |(go_at_call 148
      with_reducible refine Calls.mono (Xv (some ⟨w4.heap.size,0,none⟩) 1 1 [1] A4 n4 c4 (l.take n++r.take n) _ rfl V4.out.2.1 (HR1.out w4) (V4.out.2.2.1.grown (Qb w4 _)) (by have h:=V4.out.2.1;rw[List.length_append,HL.out.1,HL.out.2] at h;omega)) ?_
      rintro ee w5 ⟨A5,c5,n5,hn5,rfl,hb5,ho5⟩
      have H5:=hid (Qa hn5 (Qa (gro (gro HT.out.2.2.2 V4.out.2.2.2) hb5) (Xi ho5 (fun k hk=>Nat.le_trans (gro HT.out.2.2.2 V4.out.2.2.2).size ((ho5.lt k hk).1)))))
      clear hn5 hb5 ho5)
    |(go_at_call 148
      with_reducible refine Calls.mono (HT.out.1 _ HT.out.2.2.1) ?_
      rintro ee w4 ⟨A4,c4,n4,hn4,rfl,hb4,ho4⟩
      have K4:=hid (Qa (gro HT.out.2.2.1 hb4) (Qa hn4 (Qa (QU ho4).1 (show Rd w4 (some ⟨w1.heap.size,0,none⟩) ([(1:UInt8)].map b8) from J1 1 hb4))))
      clear hn4 hb4 ho4)
    |(go_at_call 148
      with_reducible refine Calls.mono (HT.out.1 _ HT.out.2.1) ?_
      rintro ee w4 ⟨A4,c4,n4,hn4,rfl,hb4,ho4⟩
      have V4:=hid (Qa (gro HT.out.2.1 hb4) (Qa hn4 (Qa (QU ho4).1 (gro (gro HT.out.2.1 hb4) (Qb w4 (.cells #[.int .u8 1] 5))))))
      clear hn4 hb4 ho4))
 all_goals
  go_wp2_with fail
  go_ret
  exact⟨A5,c5,n5,H5.out.1,rfl,H5.out.2.1,H5.out.2.2⟩
theorem Qcc (n:Nat)(l r:List UInt8)(w:World)(h2:n≤32)(hl0:l.length=32)(hr0:r.length=32):
 Calls Tryz.prog 99 #[.int .i64 n,dg l,dg r] w fun e w'=>e= .returned (dg (Dg.node n l r))∧Below w.heap.size w w':=by
 have hl:((Dg.node n l r).map b8).length=32:=by rw[List.length_map];exact Dg.sum_length n _ h2
 have hll:(l.map b8).length=32:=by rw[List.length_map,hl0]
 have hrl:(r.map b8).length=32:=by rw[List.length_map,hr0]
 obtain⟨D,hD⟩:∃ D,D=Dg.node n l r:=⟨_,rfl⟩
 have hD':Dg.sum n (Dg.nodeIn n l r)=D:=hD.symm
 rw[← hD] at hl ⊢
 have hb1:=((Blk.new w 40 (l.map b8)).alloc (.cells (r.map b8).toArray 40)).alloc (.cells (List.replicate 32 (b8 0)).toArray 40)
 have hb2:=(Blk.new (w.alloc (.cells (l.map b8).toArray 40)) 40 (r.map b8)).alloc (.cells (List.replicate 32 (b8 0)).toArray 40)
 have hb3:=Blk.new ((w.alloc (.cells (l.map b8).toArray 40)).alloc (.cells (r.map b8).toArray 40)) 40 (List.replicate 32 (b8 0))
 rw[show (w.alloc (.cells (l.map b8).toArray 40)).heap.size=w.heap.size+1 by simp] at hb2
 rw[show ((w.alloc (.cells (l.map b8).toArray 40)).alloc (.cells (r.map b8).toArray 40)).heap.size=w.heap.size+1+1 by simp] at hb3
 have hbl:=gro (gro (Qb w (.cells (l.map b8).toArray 40)) (Qb _ (.cells (r.map b8).toArray 40))) (Qb _ (.cells (List.replicate 32 (b8 0)).toArray 40))
 have HB0:=hid (Qa hb1 (Qa hb2 (Qa hb3 hbl)))
 have HD:=hid (Qa hD' (Qa hl0 hr0))
 clear hb1 hb2 hb3 hbl hD hD'
 go_enter Tryz.func99,Tryz.ntmps99
 go_upto_region 1 with fail
 refine Qe (fun w'=>Blk w' w.heap.size 40 (l.map b8)∧Blk w' (w.heap.size+1) 40 (r.map b8)∧Blk w' (w.heap.size+1+1) 40 (List.replicate 32 (b8 0))∧Below w.heap.size w w') HB0.out ?_
 rintro w0 ⟨hb1,hb2,hb3,hbl⟩
 have p1:=hb1.whole
 have p2:=hb2.whole
 have HW:=hid (Qa hb3 hbl)
 clear hb1 hb2 hb3 hbl HB0
 go_wp2_with (first
  |((with_reducible refine Qf 40 (.tmp 4) w.heap.size 0 _ 32 _ hll p1 Tryz.underlying40 rfl (by kernel_rfl) ?_ ?_ ?_ ?_);rfl;rfl;rfl)
  |((with_reducible refine Qf 40 (.tmp 5) (w.heap.size+1) 0 _ 32 _ hrl p2 Tryz.underlying40 rfl (by kernel_rfl) ?_ ?_ ?_ ?_);rfl;rfl;rfl)
  |(go_at_call 44
    refine (Zv n A1 n1 c1 (Dg.nodeIn n l r) w1 h2 H1.out.1 H1.out.2.2.1 H1.out.2.2.2.1 (by have h9:=H1.out.1;unfold Dg.nodeIn at h9;simp at h9;omega)).mono ?_
    rintro e w2 ⟨rfl,hb2⟩
    rw[HD.out.1]
    have ht:=((HW.out.1.grown H1.out.2.1).grown hb2).there 0 32 (by simp)
    have H2:=hid (gro H1.out.2.2.2.2 hb2)
    clear hb2)
  |(go_at_call 146
    refine (Uy n l r _ h2 HD.out.2.1 HD.out.2.2).mono ?_
    rintro e w1 ⟨A1,c1,n1,hn1,rfl,hb1,ho1⟩
    have H1:=hid (Qa hn1 (Qa hb1 (Qa (QU ho1).1 (Qa (QU ho1).2 (gro HW.out.2 hb1)))))
    clear hn1 hb1 ho1)
  |((with_reducible refine Qv 40 (.tmp 6) (.tmp 12) (w.heap.size+1+1) 0 _ 32 hl ht (by kernel_rfl) (Qi _) ?_ ?_ ?_ ?_ ?_);rfl;rfl;rfl;rfl))
 exact QD (w.heap.size+1+1) 0 _ 32 _ hl (World.rangeAt_setCells_same _ _ _ _ (by rw[hl];exact ht)) Tryz.underlying40 rfl (by kernel_rfl) rfl rfl rfl ⟨rfl,Qc _ (by omega) _ _ _ H2.out⟩
theorem Vc {ops:Array Oper}{rest:List Oper}{o:Oper}{a:Act}{w w0:World}{Q:Exit→Act→World→Prop}(s x:Operand){base n:Nat}{v:Value}{l:List UInt8}(hown:w.ownsRow base 5 1 v n (l.map b8))(A:Option Addr)(m c N:Nat)(hN:N=n+m)(p:List UInt8)(hm:p.length=m)(hr:Rd w A (p.map b8))
 (hlen:n+m<70368744177664) (hbl:Below base w0 w) (hbase:base≤w.heap.size)
 (hgd:o.guard=none) (ho:o.op= .call {callee:= .builtin .append,args:= #[s,x],argTypes:= #[34,34]}) (hs:a.eval s=v) (hx:a.eval x= .slice A m c)
 (h:∀ A' c' w',w'.ownsRow base 5 1 (.slice A' N c') N ((l++p).map b8)→Below base w0 w'→But 5 w w'→wpList Tryz.prog ops Q rest (a.put o.dst (.slice A' N c')) w'):wpList Tryz.prog ops Q (o :: rest) a w:=by
 subst hN
 refine Q1 s x 34 Tryz.underlying34 JP rfl (by decide) hown m c (by simp[hm]) hr (Qi p) (by unfold maxLen;omega) (by omega) hbase hgd ho hs hx ?_
 intro v' w' h1 h2 _ _
 obtain⟨A',c',rfl,_,_⟩:=QC h1
 refine h A' c' w' ?_ (QB hown hbl hbase h2) (But.append hown h2)
 rw[List.map_append];exact h1
theorem J2 {w:World}{A:Option Addr}{L:List (List Value)}{ps:List Pr}(hA:Rd w A L.flatten)(hP:Ql w L ps)(j:Nat)(hj:j<ps.length):∃ g o A1 c1 A2 c2,A=some ⟨g,o,none⟩∧w.rangeAt g (o+j*2) [.slice A1 ps[j].key.length c1,.slice A2 ps[j].val.length c2]∧Rd w A1 (ps[j].key.map b8)∧Rd w A2 (ps[j].val.map b8)∧ps[j].key.length≤c1∧ps[j].val.length≤c2∧Tyd w 5 A1∧Tyd w 5 A2:=by
 have hL:=hP.len
 have hjl:j<L.length:=by omega
 obtain⟨g,o,rfl,hr⟩:=hA (by
  intro e
  have:=Qk 2 _ hP.two
  rw[e] at this
  simp at this;omega)
 have hp:=Qt hr hP.two j hjl
 obtain⟨A1,c1,A2,c2,hx,h1,h2,h3,h4,h5,h6⟩:=hP.at_ j L[j] ps[j] (by simp[hjl]) (by simp[hj])
 rw[hx] at hp
 exact⟨g,o,A1,c1,A2,c2,rfl,hp,h1,h2,h3,h4,h5.1,h6.1⟩
def ZG (ps:List Pr)(m j:Nat):List UInt8:=3 :: (Wi.uvar m++(ps.take j).flatMap fun p=>Wi.blob p.key++Wi.blob p.val)
theorem Uz (ps:List Pr)(m j:Nat)(hj:j<ps.length):ZG ps m (j+1)=(ZG ps m j++Wi.blob ps[j].key)++Wi.blob ps[j].val:=by
 unfold ZG
 rw[List.take_succ_eq_append_getElem hj,List.flatMap_append]
 simp
theorem KY {α:Type}(f:α→List UInt8)(ps:List α)(j:Nat):((ps.take j).flatMap f).length≤(ps.flatMap f).length:=by
 conv=>rhs;rw[← List.take_append_drop j ps,List.flatMap_append,List.length_append]
 omega
theorem Qcd (A:Option Addr)(m c:Nat)(L:List (List Value))(ps:List Pr)(w:World)(hm:ps.length=m)(hA:Rd w A L.flatten)(hP:Ql w L ps)(hlen:QS ps<2199023255552)(hn:m<1048576)(hsz:∀ p∈ps,p.key.length<1048576∧p.val.length<1048576):
 Calls Tryz.prog 194 #[.slice A m c] w (Nb w (Dg.bucketIn ps)):=by
 have hul:=Wi.uvar_length 9 m (by omega)
 have hrd:=hid (show Rd (w.alloc (.cells #[.int .u8 3] 5)) (some ⟨w.heap.size,0,none⟩) ([(3:UInt8)].map b8) from Xt w 3)
 have HA:=hid (Qa hA (Qa hP (Qa hlen (Qa hsz hul))))
 clear hA hP hlen hsz hul
 go_enter Tryz.func194,Tryz.ntmps194
 go_wp2_with (first
  |(go_at_call 148
    refine (Xv (some ⟨w.heap.size,0,none⟩) 1 1 [3] A1 n1 c1 (Wi.uvar m) w1 rfl H1.out.1 H1.out.2.2.2 H1.out.2.2.1 (by have h1:=H1.out.1;have h2:=HA.out.2.2.2.2;omega)).mono ?_
    rintro e w2 ⟨A2,c2,n2,hn2,rfl,hb2,ho2⟩
    have H2:=hid (Qa hn2 (Qa (gro H1.out.2.1 hb2) (Xi ho2 (fun k hk=>Nat.le_trans H1.out.2.1.size ((ho2.lt k hk).1)))))
    clear hn2 hb2 ho2)
  |(go_at_call 193
    refine (Vb m _ (by omega)).mono ?_
    rintro e w1 ⟨A1,c1,n1,hn1,rfl,hb1,ho1⟩
    have H1:=hid (Qa hn1 (Qa (gro (Qb w (.cells #[.int .u8 3] 5)) hb1) (Qa (QU ho1).1 (hrd.out.grown hb1))))
    clear hn1 hb1 ho1))
 go_loopg [3,14] m (fun g s3 i wr=>∃ (j:Nat) (A':Option Addr) (c' N:Nat),j+g=m∧i= .int .i64 j∧s3= .slice A' N c'∧(ZG ps m j).length=N∧wr.ownsRow w.heap.size 5 1 (.slice A' N c') N ((ZG ps m j).map b8)∧Below w.heap.size w wr)
 case atStart=>exact⟨0,A2,c2,n2,by omega,rfl,rfl,by rw[← H2.out.1];simp[ZG],by simpa [ZG] using H2.out.2.2,H2.out.2.1⟩
 case round=>
  clear H2 H1
  obtain⟨j,A',c',N,hj,rfl,rfl,hNl,ho,hbl⟩:=hrel
  have hN:N<4398046511104:=by
   have h1:=KY (fun p:Pr=>Wi.blob p.key++Wi.blob p.val) ps j
   have h2:=HA.out.2.2.2.2
   have h3:=HA.out.2.2.1
   unfold QS at h3
   rw[← hNl];unfold ZG;simp only[List.length_cons,List.length_append];omega
  have HR:=hid (Qa hNl (Qa ho hbl))
  clear hNl ho hbl
  by_cases hlt:j<m
  ·have hjp:j<ps.length:=by omega
   obtain⟨g,o,B1,d1,B2,d2,rfl,hp,hr1,hr2,hc1,hc2,-,-⟩:=J2 HA.out.1 HA.out.2.1 j hjp
   have hsz:=HA.out.2.2.2.1 ps[j] (List.getElem_mem hjp)
   have hnx:=Uz ps m j hjp
   obtain⟨key,hkey⟩:∃ k,k=ps[j].key:=⟨_,rfl⟩
   obtain⟨val,hval⟩:∃ k,k=ps[j].val:=⟨_,rfl⟩
   rw[← hkey,←hval] at hp hsz hnx
   rw[← hkey] at hr1
   rw[← hval] at hr2
   obtain⟨nk,hnk⟩:∃ nk,key.length=nk:=⟨_,rfl⟩
   obtain⟨nv,hnv⟩:∃ nv,val.length=nv:=⟨_,rfl⟩
   rw[hnk,hnv] at hp hsz
   have hlb:=Qo hp (by simp)
   have hp2:=Qh hp HR.out.2.2 hlb
   have hoc:∀ v∈[Value.slice B1 nk d1,.slice B2 nv d2],v.oneCell'=true:=fun v hv=>by
    simp only[List.mem_cons,List.not_mem_nil,or_false] at hv
    rcases hv with rfl|rfl<;>rfl
   have hbk:=Blk.new wr 166 [.slice B1 nk d1,.slice B2 nv d2]
   have k0:(wr.alloc (.cells #[.slice B1 nk d1,.slice B2 nv d2] 166)).cell? ⟨wr.heap.size,0,none⟩=some (.slice B1 nk d1):=by rw[show (wr.alloc (.cells #[.slice B1 nk d1,.slice B2 nv d2] 166))=(wr.alloc (.cells [.slice B1 nk d1,.slice B2 nv d2].toArray 166)) from rfl,hbk.cell];rfl
   have hb1:=Qb wr (.cells #[.slice B1 nk d1,.slice B2 nv d2] 166)
   have hk1:=Wi.uvar_length 9 nk (by omega)
   have hk2:=Wi.uvar_length 9 nv (by omega)
   have hbl1:(Wi.blob key).length=(Wi.uvar nk).length+nk:=by unfold Wi.blob;rw[List.length_append,hnk]
   have hbl2:(Wi.blob val).length=(Wi.uvar nv).length+nv:=by unfold Wi.blob;rw[List.length_append,hnv]
   have HX:=hid (Qa hnk (Qa hnv (Qa hr1 (Qa hr2 (Qa hbk (Qa hb1 (Qa hnx (Qa (show (Wi.blob key).length<1048600 by omega) (show (Wi.blob val).length<1048600 by omega)))))))))
   clear hnk hnv hr1 hr2 hbk hb1 hnx hkey hval hp hc1 hc2 hk1 hk2 hbl1 hbl2 hlb
   go_wp2_with (first
    |((with_reducible refine Qf 166 (.tmp 16) g (o+j*2) _ 2 _ rfl hp2 Tryz.underlying166 rfl (by kernel_rfl) ?_ ?_ ?_ ?_);rfl;rfl;rfl)
    |((with_reducible refine Qw 166 (.tmp 5) (.tmp 17) _ _ [.slice B1 nk d1,.slice B2 nv d2] 2 rfl ?_ (by kernel_rfl) hoc ?_ ?_ ?_ ?_ ?_);rfl;rfl;rfl;rfl;rfl)
    |(go_at_call 149
      refine (Jt B2 nv d2 val w3 HX.out.2.1 (HX.out.2.2.2.1.grown H3.out.2.1) (by omega)).mono ?_
      rintro e w4 ⟨A4,c4,n4,hn4,rfl,hb4,ho4⟩
      have H4:=hid (Qa hn4 (Qa (QU ho4).1 (Qa (Qg H3.out.1 hb4) (gro H3.out.2.1 hb4))))
      have hn4b:n4<1048600:=(by have:=HX.out.2.2.2.2.2.2.2.2;omega)
      clear hn4 hb4 ho4)
    |(go_at_call 149
      refine (Jt B1 nk d1 key _ HX.out.1 (HX.out.2.2.1.grown (gro HR.out.2.2 HX.out.2.2.2.2.2.1)) (by omega)).mono ?_
      rintro e w2' ⟨A2',c2',n2',hn2,rfl,hb2,ho2⟩
      have H2:=hid (Qa hn2 (Qa (QU ho2).1 (Qa (Qg (Qg HR.out.2.1 HX.out.2.2.2.2.2.1) hb2) (Qa (gro (gro HR.out.2.2 HX.out.2.2.2.2.2.1) hb2) (HX.out.2.2.2.2.1.grown hb2)))))
      have hn2b:n2'<1048600:=(by have:=HX.out.2.2.2.2.2.2.2.1;omega)
      clear hn2 hb2 ho2)
    |((with_reducible refine Vc (.tmp 18) (.tmp 21) H2.out.2.2.1 A2' n2' c2' (N+n2') rfl (Wi.blob key) H2.out.1 H2.out.2.1 (by omega) H2.out.2.2.2.1 H2.out.2.2.2.1.size ?_ ?_ ?_ ?_ ?_);rfl;rfl;rfl;rfl
      intro A3 c3 w3 ho3 hb3 hst3
      have k3:=hst3.blk H2.out.2.2.2.2 (by decide)
      have k1:w3.cell? ⟨wr.heap.size,1,none⟩=some (.slice B2 nv d2):=(by rw[k3.cell];rfl)
      have H3:=hid (Qa ho3 (Qa hb3 k3))
      clear ho3 hb3 hst3 k3)
    |((with_reducible refine Vc (.tmp 23) (.tmp 26) H4.out.2.2.1 A4 n4 c4 (N+n2'+n4) rfl (Wi.blob val) H4.out.1 H4.out.2.1 (by omega) H4.out.2.2.2 H4.out.2.2.2.size ?_ ?_ ?_ ?_ ?_);rfl;rfl;rfl;rfl
      intro A5 c5 w5 ho5 hb5 _
      have H5:=hid (Qa ho5 hb5)
      clear ho5 hb5))
   go_roundg (gk-1)
   case measure=>omega
   case rel=>
    refine⟨j+1,A5,c5,N+n2'+n4,by omega,by go_num,rfl,?_,?_,H5.out.2⟩
    ·rw[HX.out.2.2.2.2.2.2.1,List.length_append,List.length_append,HR.out.1,H2.out.1,H4.out.1]
    ·rw[HX.out.2.2.2.2.2.2.1];exact H5.out.1
  ·obtain rfl:j=m:=by omega
   have hfin:Dg.bucketIn ps=ZG ps j j:=by unfold Dg.bucketIn ZG;rw[hm,List.take_of_length_le (by omega)]
   have HF:=hid hfin
   clear hfin
   go_wp2_with fail
   go_ret
   exact⟨A',c',N,by rw[HF.out];exact HR.out.1,rfl,HR.out.2.2,by rw[HF.out];exact HR.out.2.1⟩
theorem Qd7 (ps:List Pr)(hn:ps.length<1048576):(Dg.bucketIn ps).length≤11+QS ps:=by
 have:=Wi.uvar_length 9 ps.length (by omega)
 unfold Dg.bucketIn QS
 simp only[List.length_cons,List.length_append]
 omega
def X0 (n m:Nat)(ks:List (List UInt8))(j:Nat):List UInt8:=4 :: (Wi.wide m 2++Xg n (ks.take j))
theorem UA (n m:Nat)(ks:List (List UInt8))(j:Nat)(hj:j<ks.length):X0 n m ks (j+1)=X0 n m ks j++ks[j].take n:=by
 unfold X0
 rw[KN n ks j hj]
 simp
theorem Ys (n m:Nat)(ks:List (List UInt8))(j:Nat)(h2:n≤32)(hk:ks.length<1048576):(X0 n m ks j).length<34359738368:=by
 unfold X0
 have h1:=Zs n (ks.take j)
 have h3:=Wi.wide_length m 2
 have h4:(ks.take j).length≤ks.length:=by simp;omega
 have h5:n*(ks.take j).length≤32*ks.length:=Nat.mul_le_mul h2 h4
 simp only[List.length_cons,List.length_append]
 omega
theorem Qce (n:Nat)(bm:Nat)(A:Option Addr)(m c:Nat)(ks:List (List UInt8))(w:World)(h2:n≤32)(hbm:bm<65536)(hm:ks.length=m)(hd:∀ d∈ks,d.length=32)(hA:Rd w A (dgs ks).flatten)(hn:m<1048576):
 Calls Tryz.prog 196 #[.int .i64 n,.int .u16 bm,.slice A m c] w (Nb w (Dg.branchIn n bm ks)):=by
 have hrd:=hid (show Rd (w.alloc (.cells #[.int .u8 4] 5)) (some ⟨w.heap.size,0,none⟩) ([(4:UInt8)].map b8) from Xt w 4)
 have HA:=hid (Qa hA hd)
 clear hA hd
 go_enter Tryz.func196,Tryz.ntmps196
 go_wp2_with (first
  |(go_at_call 148
    refine (Xv (some ⟨w.heap.size,0,none⟩) 1 1 [4] A1 n1 c1 (Wi.wide bm 2) w1 rfl H1.out.1 H1.out.2.2.2 H1.out.2.2.1 (by have h1:=H1.out.1;rw[Wi.wide_length] at h1;omega)).mono ?_
    rintro e w2 ⟨A2,c2,n2,hn2,rfl,hb2,ho2⟩
    have H2:=hid (Qa hn2 (Qa (gro H1.out.2.1 hb2) (Xi ho2 (fun k hk=>Nat.le_trans H1.out.2.1.size ((ho2.lt k hk).1)))))
    clear hn2 hb2 ho2)
  |(go_at_call 214
    refine (Qb8 bm 2 _ (by omega) (by omega)).mono ?_
    rintro e w1 ⟨A1,c1,n1,hn1,rfl,hb1,ho1⟩
    have H1:=hid (Qa hn1 (Qa (gro (Qb w (.cells #[.int .u8 4] 5)) hb1) (Qa (QU ho1).1 (hrd.out.grown hb1))))
    clear hn1 hb1 ho1))
 go_loopg [7,17] m (fun g s3 i wr=>∃ (j:Nat) (A':Option Addr) (c' N:Nat),j+g=m∧i= .int .i64 j∧s3= .slice A' N c'∧(X0 n bm ks j).length=N∧wr.ownsRow w.heap.size 5 1 (.slice A' N c') N ((X0 n bm ks j).map b8)∧Below w.heap.size w wr)
 case atStart=>exact⟨0,A2,c2,n2,by omega,rfl,rfl,by rw[← H2.out.1];simp[X0,Xg],by simpa [X0,Xg] using H2.out.2.2,H2.out.2.1⟩
 case round=>
  clear H2 H1
  obtain⟨j,A',c',N,hj,rfl,rfl,hNl,ho,hbl⟩:=hrel
  have hN:N<34359738368:=by rw[← hNl];exact Ys n bm ks j h2 (by omega)
  have HR:=hid (Qa hNl (Qa ho hbl))
  clear hNl ho hbl
  by_cases hlt:j<m
  ·have hjp:j<ks.length:=by omega
   have hl32:∀ x∈dgs ks,x.length=32:=Q3 HA.out.2
   have hjl:j< (dgs ks).length:=by simpa [dgs] using hjp
   obtain⟨g,o,rfl,hr⟩:=HA.out.1 (by
    intro e
    have:=Qk 32 _ hl32
    rw[e] at this
    simp at this;omega)
   have hp:=Qt hr hl32 j hjl
   have hlj:(dgs ks)[j].length=32:=hl32 _ (List.getElem_mem hjl)
   have hej:(dgs ks)[j]=ks[j].map b8:=by simp[dgs]
   rw[hej] at hp hlj
   have hnx:=UA n bm ks j hjp
   obtain⟨d,hd⟩:∃ d,d=ks[j]:=⟨_,rfl⟩
   rw[← hd] at hp hlj hnx
   have hlb:=Qo hp (by omega)
   have hp2:=Qh hp HR.out.2.2 hlb
   have htk:(d.take n).length=n:=by rw[List.length_map] at hlj;rw[List.length_take];omega
   have s1:=QH (P:=Tryz.prog) Tryz.underlying40 (by kernel_rfl) wr.heap.size 0 n h2
   have hbx:=Qb wr (.cells (d.map b8).toArray 40)
   have hrd2:Rd (wr.alloc (.cells (d.map b8).toArray 40)) (some ⟨wr.heap.size,0,none⟩) ((d.take n).map b8):=by rw[List.map_take];exact (Rd.of _ (Blk.new wr 40 (d.map b8)).whole).take n
   have HX:=hid (Qa htk (Qa hrd2 (Qa (Qg HR.out.2.1 hbx) (Qa (gro HR.out.2.2 hbx) hnx))))
   clear htk hrd2 hbx hnx hd hp hlb hej hr hl32 hjl
   go_wp2_with (first
    |((with_reducible refine Qf 40 (.tmp 19) g (o+j*32) _ 32 _ hlj hp2 Tryz.underlying40 rfl (by kernel_rfl) ?_ ?_ ?_ ?_);rfl;rfl;rfl)
    |((with_reducible refine Qw 40 (.tmp 9) (.tmp 20) _ _ (d.map b8) 32 hlj ?_ (by kernel_rfl) (Qi d) ?_ ?_ ?_ ?_ ?_);rfl;rfl;rfl;rfl;rfl)
    |((with_reducible refine XV (.tmp 21) (.tmp 23) HX.out.2.2.1 (some ⟨wr.heap.size,0,none⟩) n 32 (N+n) rfl (d.take n) HX.out.1 HX.out.2.1 (by omega) HX.out.2.2.2.1 HX.out.2.2.2.1.size ?_ ?_ ?_ ?_ ?_);rfl;rfl;rfl;rfl
      intro A5 c5 w5 ho5 hb5
      have H5:=hid (Qa ho5 hb5)
      clear ho5 hb5))
   go_roundg (gk-1)
   case measure=>omega
   case rel=>
    refine⟨j+1,A5,c5,N+n,by omega,by go_num,rfl,?_,?_,H5.out.2⟩
    ·rw[HX.out.2.2.2.2,List.length_append,HR.out.1,HX.out.1]
    ·rw[HX.out.2.2.2.2];exact H5.out.1
  ·obtain rfl:j=m:=by omega
   have hfin:Dg.branchIn n bm ks=X0 n bm ks j:=by unfold Dg.branchIn X0 Xg;rw[List.take_of_length_le (by omega)]
   have HF:=hid hfin
   clear hfin
   go_wp2_with fail
   go_ret
   exact⟨A',c',N,by rw[HF.out];exact HR.out.1,rfl,HR.out.2.2,by rw[HF.out];exact HR.out.2.1⟩
theorem UB (n:Nat)(A:Option Addr)(m c:Nat)(L:List (List Value))(ps:List Pr)(w:World)(h2:n≤32)(hm:ps.length=m)(hA:Rd w A L.flatten)(hP:Ql w L ps)(hlen:QS ps<274877906944)(hn:m<1048576)(hsz:∀ p∈ps,p.key.length<1048576∧p.val.length<1048576):
 Calls Tryz.prog 151 #[.int .i64 n,.slice A m c] w fun e w'=>e= .returned (dg (Dg.bucket n ps))∧Below w.heap.size w w':=by
 have hl:((Dg.bucket n ps).map b8).length=32:=by rw[List.length_map];exact Dg.sum_length n _ h2
 obtain⟨D,hD⟩:∃ D,D=Dg.bucket n ps:=⟨_,rfl⟩
 have hD':Dg.sum n (Dg.bucketIn ps)=D:=hD.symm
 rw[← hD] at hl ⊢
 have hb0:=Blk.new w 40 (List.replicate 32 (b8 0))
 have HB0:=hid (Qa hb0 hD')
 clear hb0 hD hD'
 go_enter Tryz.func151,Tryz.ntmps151
 go_wp2_with (first
  |(go_at_call 44
    refine (Zv n A1 n1 c1 (Dg.bucketIn ps) w1 h2 H1.out.1 H1.out.2.2.1 H1.out.2.2.2.1 (by have h9:=H1.out.1;have h8:=Qd7 ps (by omega);omega)).mono ?_
    rintro e w2 ⟨rfl,hb2⟩
    rw[HB0.out.2]
    have ht:=((HB0.out.1.grown H1.out.2.1).grown hb2).there 0 32 (by simp)
    have H2:=hid (gro H1.out.2.2.2.2 hb2)
    clear hb2)
  |(go_at_call 194
    refine (Qcd A m c L ps _ hm (hA.grown (Qb w _)) (hP.grown (Qb w _)) (by omega) hn hsz).mono ?_
    rintro e w1 ⟨A1,c1,n1,hn1,rfl,hb1,ho1⟩
    have H1:=hid (Qa hn1 (Qa hb1 (Qa (QU ho1).1 (Qa (QU ho1).2 (gro (Qb w _) hb1)))))
    clear hn1 hb1 ho1)
  |((with_reducible refine Qv 40 (.tmp 4) (.tmp 8) w.heap.size 0 _ 32 hl ht (by kernel_rfl) (Qi _) ?_ ?_ ?_ ?_ ?_);rfl;rfl;rfl;rfl))
 exact QD w.heap.size 0 _ 32 _ hl (World.rangeAt_setCells_same _ _ _ _ (by rw[hl];exact ht)) Tryz.underlying40 rfl (by kernel_rfl) rfl rfl rfl ⟨rfl,Qc _ (Nat.le_refl _) _ _ _ H2.out⟩
theorem UC (n:Nat)(bm:Nat)(A:Option Addr)(m c:Nat)(ks:List (List UInt8))(w:World)(h2:n≤32)(hbm:bm<65536)(hm:ks.length=m)(hd:∀ d∈ks,d.length=32)(hA:Rd w A (dgs ks).flatten)(hn:m<1048576):
 Calls Tryz.prog 154 #[.int .i64 n,.int .u16 bm,.slice A m c] w fun e w'=>e= .returned (dg (Dg.branch n bm ks))∧Below w.heap.size w w':=by
 have hl:((Dg.branch n bm ks).map b8).length=32:=by rw[List.length_map];exact Dg.sum_length n _ h2
 obtain⟨D,hD⟩:∃ D,D=Dg.branch n bm ks:=⟨_,rfl⟩
 have hD':Dg.sum n (Dg.branchIn n bm ks)=D:=hD.symm
 rw[← hD] at hl ⊢
 have hb0:=Blk.new w 40 (List.replicate 32 (b8 0))
 have HB0:=hid (Qa hb0 hD')
 clear hb0 hD hD'
 go_enter Tryz.func154,Tryz.ntmps154
 go_wp2_with (first
  |(go_at_call 44
    refine (Zv n A1 n1 c1 (Dg.branchIn n bm ks) w1 h2 H1.out.1 H1.out.2.2.1 H1.out.2.2.2.1 (by have h9:=H1.out.1;have h8:=Ys n bm ks m h2 (by omega);rw[show X0 n bm ks m=Dg.branchIn n bm ks from by unfold Dg.branchIn X0 Xg;rw[List.take_of_length_le (by omega)]] at h8;omega)).mono ?_
    rintro e w2 ⟨rfl,hb2⟩
    rw[HB0.out.2]
    have ht:=((HB0.out.1.grown H1.out.2.1).grown hb2).there 0 32 (by simp)
    have H2:=hid (gro H1.out.2.2.2.2 hb2)
    clear hb2)
  |(go_at_call 196
    refine (Qce n bm A m c ks _ h2 hbm hm hd (hA.grown (Qb w _)) hn).mono ?_
    rintro e w1 ⟨A1,c1,n1,hn1,rfl,hb1,ho1⟩
    have H1:=hid (Qa hn1 (Qa hb1 (Qa (QU ho1).1 (Qa (QU ho1).2 (gro (Qb w _) hb1)))))
    clear hn1 hb1 ho1)
  |((with_reducible refine Qv 40 (.tmp 6) (.tmp 12) w.heap.size 0 _ 32 hl ht (by kernel_rfl) (Qi _) ?_ ?_ ?_ ?_ ?_);rfl;rfl;rfl;rfl))
 exact QD w.heap.size 0 _ 32 _ hl (World.rangeAt_setCells_same _ _ _ _ (by rw[hl];exact ht)) Tryz.underlying40 rfl (by kernel_rfl) rfl rfl rfl ⟨rfl,Qc _ (Nat.le_refl _) _ _ _ H2.out⟩
theorem WR (n:Nat)(w:World)(h1:2≤n)(hn:n<1099511627776):Calls Tryz.prog 98 #[.int .u64 n] w fun e w'=>e= .returned (.int .u64 (Mt.below n))∧w=w':=by
 go_enter Tryz.func98,Tryz.ntmps98
 go_wp2_with fail
 go_loopg [3] (n-1) (fun g s3 wr=>∃ k:Nat,k+g=n∧0<k∧k<n∧s3= .int .u64 k∧Hid (∃ i,k=2^i)∧wr=w)
 case atStart=>exact⟨1,by omega,by omega,by omega,rfl,⟨0,rfl⟩,rfl⟩
 case round=>
  obtain⟨k,hk,hk0,hkn,rfl,hp,rfl⟩:=hrel
  by_cases hle:k≤(n-1) / 2
  ·have hc:(k:Int)≤((n:Int)-1) / 2:=by omega
   go_wp2_with fail
   go_roundg (n-2*k)
   case measure=>omega
   case rel=>exact⟨2*k,by omega,by omega,by omega,by go_num,by obtain⟨i,hi⟩:=hp.out;exact⟨i+1,by rw[hi,Nat.pow_succ];omega⟩,rfl⟩
  ·have hc:¬(k:Int)≤((n:Int)-1) / 2:=by omega
   have hb:Mt.below n=k:=by
    obtain⟨i,hi⟩:=hp.out
    rw[hi];exact Mt.below_eq n i h1 (by omega) (by omega)
   have HB:=hid hb
   clear hb
   go_wp2_with fail
   go_ret
   exact⟨by rw[HB.out];rfl,rfl⟩
theorem Mt.log_len (n:Nat)(h2:n≤32)(ds:List (List UInt8))(hd:∀ d∈ds,d.length=32):(Mt.log n ds).length=32:=by
 rcases ds with _|⟨d,_|⟨d2,r⟩⟩
 ·rw[Mt.log_nil];exact Dg.sum_length n _ h2
 ·rw[Mt.log_one];exact hd d (by simp)
 ·rw[Mt.log_two n _ (by simp)];exact Dg.sum_length n _ h2
theorem Q8 {w:World}{g o:Nat}{X Y:List Value}(h:w.rangeAt g o (X++Y)):w.rangeAt g o X∧w.rangeAt g (o+X.length) Y:=by
 constructor
 ·intro j v hj
  have hl:j<X.length:=(List.getElem?_eq_some_iff.1 hj).1
  exact h j v (by rw[List.getElem?_append_left hl];exact hj)
 ·intro j v hj
  have:=h (X.length+j) v (by rw[List.getElem?_append_right (by omega)];simpa using hj)
  rw[Nat.add_assoc];exact this
theorem WS (ds:List (List UInt8))(k:Nat):(dgs ds).flatten=(dgs (ds.take k)).flatten++(dgs (ds.drop k)).flatten:=by
 rw[← List.flatten_append];unfold dgs;rw[← List.map_append,List.take_append_drop]
theorem Qd8 (n:Nat)(h2:n≤32)(N:Nat):∀ (ds:List (List UInt8)),ds.length=N→∀ (A:Option Addr) (m c:Nat) (w:World),ds.length=m→(∀ d∈ds,d.length=32)→Rd w A (dgs ds).flatten→m≤c→m<1048576→
 Calls Tryz.prog 61 #[.int .i64 n,.slice A m c] w fun e w'=>e= .returned (dg (Mt.log n ds))∧Below w.heap.size w w':=by
 induction N using Nat.strongRecOn with
 |_ N ih=>
  intro ds hN A m c w hm hd hA hc hm20
  have hll:=Mt.log_len n h2 ds hd
  have hl:((Mt.log n ds).map b8).length=32:=by rw[List.length_map,hll]
  have hb0:=Blk.new w 40 (List.replicate 32 (b8 0))
  have hbl:=Qb w (.cells (List.replicate 32 (b8 0)).toArray 40)
  have ht0:=hb0.there 0 32 (by simp)
  have HI:=hid ih
  have HB:=hid (Qa hb0 hbl)
  have HA:=hid (Qa hN (Qa hm (Qa hd hA)))
  clear ih hb0 hbl hN hm hd hA hll
  rcases Nat.lt_or_ge m 2 with hm2|hm2
  ·rcases Nat.lt_or_ge m 1 with hm1|hm1
   ·obtain rfl:m=0:=by omega
    obtain rfl:ds=[]:=List.length_eq_zero_iff.1 HA.out.2.1
    rw[Mt.log_nil] at hl ⊢
    obtain⟨D,hD⟩:∃ D,D=Dg.noLog n:=⟨_,rfl⟩
    rw[← hD] at hl ⊢
    have HD:=hid hD
    clear hD ht0
    go_enter Tryz.func61,Tryz.ntmps61
    go_wp2_with (first
     |(go_at_call 97
       refine (WO n _ h2).mono ?_
       rintro e w2 ⟨rfl,hb2⟩
       rw[← HD.out]
       have ht:=(HB.out.1.grown hb2).there 0 32 (by simp)
       have H2:=hid (gro HB.out.2 hb2)
       clear hb2)
     |((with_reducible refine Qv 40 (.tmp 4) (.tmp 11) w.heap.size 0 _ 32 hl ht (by kernel_rfl) (Qi _) ?_ ?_ ?_ ?_ ?_);rfl;rfl;rfl;rfl))
    exact QD w.heap.size 0 _ 32 _ hl (World.rangeAt_setCells_same _ _ _ _ (by rw[hl];exact ht)) Tryz.underlying40 rfl (by kernel_rfl) rfl rfl rfl ⟨rfl,Qc _ (Nat.le_refl _) _ _ _ H2.out⟩
   ·obtain rfl:m=1:=by omega
    obtain⟨d,rfl⟩:=List.length_eq_one_iff.1 HA.out.2.1
    rw[Mt.log_one] at hl ⊢
    obtain⟨g,o,rfl,hr⟩:=HA.out.2.2.2 (by
     intro e
     have h1:(dgs [d]).flatten=d.map b8:=by simp[dgs]
     rw[h1] at e;rw[e] at hl;simp at hl)
    rw[show (dgs [d]).flatten=d.map b8 from by simp[dgs]] at hr
    have hp0:=Qm hr HB.out.2
    have HP:=hid (Qa hp0 (Qa ht0 HB.out.2))
    clear hr hp0 ht0
    go_enter Tryz.func61,Tryz.ntmps61
    go_upto_region 5 with fail
    refine Qe (fun w'=>w'.rangeAt g o (d.map b8)∧w'.there w.heap.size 0 32∧Below w.heap.size w w') HP.out ?_
    rintro w1 ⟨hp,ht0,hbl⟩
    have HBl:=hid hbl
    clear hbl HP
    go_wp2_with (first
     |((with_reducible refine Qf 40 (.tmp 15) g o _ 32 _ hl hp Tryz.underlying40 rfl (by kernel_rfl) ?_ ?_ ?_ ?_);rfl;rfl;rfl)
     |((with_reducible refine Qv 40 (.tmp 4) (.tmp 16) w.heap.size 0 _ 32 hl ht0 (by kernel_rfl) (Qi _) ?_ ?_ ?_ ?_ ?_);rfl;rfl;rfl;rfl))
    exact QD w.heap.size 0 _ 32 _ hl (World.rangeAt_setCells_same _ _ _ _ (by rw[hl];exact ht0)) Tryz.underlying40 rfl (by kernel_rfl) rfl rfl rfl ⟨rfl,Qc _ (Nat.le_refl _) _ _ _ HBl.out⟩
  ·have hm0:¬(m:Int)=0:=by omega
   have hm1:¬(m:Int)=1:=by omega
   have hk1:=Mt.below_lt m hm2
   have hk0:=Mt.below_pos m
   have hlog:=Mt.log_two n ds (by rw[HA.out.2.1];exact hm2)
   rw[HA.out.2.1] at hlog
   obtain⟨k,hk⟩:∃ k,k=Mt.below m:=⟨_,rfl⟩
   rw[← hk] at hk1 hk0 hlog
   have hX:∀ d∈ds.take k,d.length=32:=fun d h=>HA.out.2.2.1 d (List.mem_of_mem_take h)
   have hY:∀ d∈ds.drop k,d.length=32:=fun d h=>HA.out.2.2.1 d (List.mem_of_mem_drop h)
   have hXl:(ds.take k).length=k:=by rw[List.length_take,HA.out.2.1];omega
   have hYl:(ds.drop k).length=m-k:=by rw[List.length_drop,HA.out.2.1]
   obtain⟨g,o,rfl,hr⟩:=HA.out.2.2.2 (by
    intro e
    have:=Qk 32 _ (Q3 HA.out.2.2.1)
    rw[e,show (dgs ds).length=m from by simp[dgs,HA.out.2.1]] at this
    simp at this;omega)
   rw[WS ds k] at hr
   obtain⟨hr1,hr2⟩:=Q8 hr
   rw[Qk 32 _ (Q3 hX),show (dgs (ds.take k)).length=k from by simp only[dgs,List.length_map];exact hXl] at hr2
   obtain⟨X,hXe⟩:∃ X,X=Mt.log n (ds.take k):=⟨_,rfl⟩
   obtain⟨Y,hYe⟩:∃ Y,Y=Mt.log n (ds.drop k):=⟨_,rfl⟩
   have hX32:X.length=32:=by rw[hXe];exact Mt.log_len n h2 _ hX
   have hY32:Y.length=32:=by rw[hYe];exact Mt.log_len n h2 _ hY
   rw[← hXe,←hYe] at hlog
   have s1:=Q7 (P:=Tryz.prog) Tryz.underlying105 (e:=40) (size:=32) (by kernel_rfl) g o m c k (by omega)
   have s2:=Qz (P:=Tryz.prog) Tryz.underlying105 (e:=40) (size:=32) (by kernel_rfl) g o m c k (by omega) (by omega)
   obtain⟨o2,ho2⟩:∃ o2,o2=o+k*32:=⟨_,rfl⟩
   obtain⟨m2,hm2'⟩:∃ m2,m2=m-k:=⟨_,rfl⟩
   obtain⟨c2,hc2⟩:∃ c2,c2=c-k:=⟨_,rfl⟩
   rw[← ho2] at hr2
   rw[← ho2,←hm2',←hc2] at s2
   have hcx:∀ w',Below w.heap.size w w'→Calls Tryz.prog 61 #[.int .i64 n,.slice (some ⟨g,o,none⟩) k c] w' fun e w''=>e= .returned (dg X)∧Below w'.heap.size w' w'':=fun w' hb=>by
    rw[hXe];exact HI.out k (by have:=HA.out.1;have:=HA.out.2.1;omega) (ds.take k) hXl _ k c w' hXl hX ((Rd.of _ hr1).grown hb) (by omega) (by omega)
   have hcy:∀ w',Below w.heap.size w w'→Calls Tryz.prog 61 #[.int .i64 n,.slice (some ⟨g,o2,none⟩) m2 c2] w' fun e w''=>e= .returned (dg Y)∧Below w'.heap.size w' w'':=fun w' hb=>by
    rw[hYe,hm2'];exact HI.out (m-k) (by have:=HA.out.1;have:=HA.out.2.1;omega) (ds.drop k) hYl _ (m-k) c2 w' hYl hY ((Rd.of _ hr2).grown hb) (by omega) (by omega)
   obtain⟨D,hD⟩:∃ D,D=Mt.log n ds:=⟨_,rfl⟩
   rw[← hD] at hl hlog ⊢
   have HC:=hid (Qa hcx (Qa hcy (Qa hlog (Qa hX32 hY32))))
   have HK:=hid hk
   clear hcx hcy hlog hX32 hY32 hXe hYe hD hk hr hr1 hr2 hX hY hXl hYl ho2 hm2' hc2 HI
   go_enter Tryz.func61,Tryz.ntmps61
   go_upto_region 7 with (first
    |(go_at_call 98
      refine (WR m _ hm2 (by omega)).mono ?_
      rintro e w2 ⟨rfl,rfl⟩
      rw[← HK.out]))
   refine Qe (fun w'=>Blk w' w.heap.size 40 (List.replicate 32 (b8 0))∧Below w.heap.size w w') HB.out ?_
   rintro w1 ⟨hb1,hbl1⟩
   have H1:=hid (Qa hb1 hbl1)
   clear hb1 hbl1 HB ht0
   refine Qq 12 (by kernel_rfl) (by kernel_rfl) ?_
   dsimp only[List.take_succ_cons,List.take_zero,List.drop_succ_cons,List.drop_zero]
   repeat go_big_quiet_step (first
    |(with_reducible exact Calls.fut_of (HC.out.1 _ (gro H1.out.2 (Fut.below _))))
    |(with_reducible exact Calls.fut_of (HC.out.2.1 _ (gro H1.out.2 (Fut.below _))))
    |(with_reducible exact Calls.fut_of (Qcc n X Y _ h2 HC.out.2.2.2.1 HC.out.2.2.2.2)))
   refine wpQuiet_nil ?_
   rintro _ ⟨s,rfl⟩
   have ht:=(H1.out.1.grown s.below).there 0 32 (by simp)
   have hbs:=gro H1.out.2 s.below
   rw[← HC.out.2.2.1]
   (refine Qv 40 (.tmp 4) (.tmp 33) w.heap.size 0 _ 32 hl ht (by kernel_rfl) (Qi _) ?_ ?_ ?_ ?_ ?_);rfl;rfl;rfl;rfl
   go_wp2_with fail
   exact QD w.heap.size 0 _ 32 _ hl (World.rangeAt_setCells_same _ _ _ _ (by rw[hl];exact ht)) Tryz.underlying40 rfl (by kernel_rfl) rfl rfl rfl ⟨rfl,Qc _ (Nat.le_refl _) _ _ _ hbs⟩
theorem UD:(Tryz.prog.info? 40).map (fun i=>(i.zero,i.size,i.bytes))=some (some (.agg (List.replicate 32 (.int .u8 0)).toArray),32,32):=by kernel_rfl
theorem VK (e:Ent)(hk:e.key.length<1048576)(hv:e.val.length<1048576):(En.bytes e).length<4194304:=by
 have h1:=Wi.uvar_length 9 e.key.length (by omega)
 have h2:=Wi.uvar_length 9 e.val.length (by omega)
 unfold En.bytes Wi.blob
 split<;>simp only[List.length_cons,List.length_append,List.length_nil]<;>omega
theorem UE (n:Nat)(es:List Ent)(j:Nat)(hj:j<es.length):(dgs (Sn.leaves n (es.take (j+1)))).flatten=(dgs (Sn.leaves n (es.take j))).flatten++(Dg.leaf n (En.bytes es[j])).map b8:=by
 unfold Sn.leaves dgs
 rw[List.take_succ_eq_append_getElem hj,List.map_append,List.map_append,List.flatten_append,List.map_singleton,List.map_singleton,List.flatten_singleton]
theorem Yt (n:Nat)(h2:n≤32)(p:List UInt8):(Dg.leaf n p).length=32:=Dg.sum_length n _ h2
theorem UF (n:Nat)(h2:n≤32)(es:List Ent)(A:Option Addr)(m c:Nat)(L:List (List Value))(w:World)(hm:es.length=m)(hA:Rd w A L.flatten)(hE:QK w L es)(hn:m<1048576)(hb:∀ e∈es,e.key.length<1048576∧e.val.length<1048576):
 Calls Tryz.prog 62 #[.int .i64 n,.slice A m c] w fun e w'=>∃ Ar cr,e= .returned (.slice Ar m cr)∧Below w.heap.size w w'∧Rd w' Ar (dgs (Sn.leaves n es)).flatten∧m≤cr:=by
 have HA:=hid (Qa hA (Qa hE hb))
 clear hA hE hb
 go_enter Tryz.func62,Tryz.ntmps62
 go_wp2_with fail
 go_loopg [5,10] m (fun g s3 i wr=>∃ (j:Nat) (Ar:Option Addr) (cr:Nat),j+g=m∧i= .int .i64 j∧s3= .slice Ar j cr∧wr.ownsRow w.heap.size 40 32 (.slice Ar j cr) j (dgs (Sn.leaves n (es.take j))).flatten∧Below w.heap.size w wr)
 case atStart=>exact⟨0,none,0,by omega,rfl,rfl,World.ownsRow_nil _ _ _ _,Below.refl _ _⟩
 case round=>
  obtain⟨j,Ar,cr,hj,rfl,rfl,ho,hbl⟩:=hrel
  have HR:=hid (Qa ho hbl)
  clear ho hbl
  by_cases hlt:j<m
  ·have hje:j<es.length:=by omega
   have hnx:=UE n es j hje
   obtain⟨kind,key,val,hjj⟩:∃ kind key val,es[j]?=some ⟨kind,key,val⟩:=⟨es[j].kind,es[j].key,es[j].val,by simp[hje]⟩
   rw[(List.getElem?_eq_some_iff.1 hjj).2] at hnx
   have hL:=HA.out.2.1.len
   have hjl:j<L.length:=by omega
   obtain⟨g,o,rfl,hr⟩:=HA.out.1 (by
    intro e
    have:=Qk 3 _ HA.out.2.1.three
    rw[e] at this
    simp at this;omega)
   have hp:=Qt hr HA.out.2.1.three j hjl
   have hbk:=HA.out.2.2 _ (List.mem_of_getElem? hjj)
   obtain⟨A1,c1',A2,c2',hx,hr1,hr2,hc1,hc2⟩:=HA.out.2.1.at_ j L[j] ⟨kind,key,val⟩ (by simp[hjl]) hjj
   rw[hx] at hp
   simp only[] at hp
   have hlb:=Qo hp (by simp)
   have hp2:=Qh hp HR.out.2 hlb
   have hea:Xu w [b8 kind,.slice A1 key.length c1',.slice A2 val.length c2'] ⟨kind,key,val⟩:=⟨A1,c1',A2,c2',rfl,hr1,hr2,hc1,hc2⟩
   have hoc:∀ v∈[b8 kind,.slice A1 key.length c1',.slice A2 val.length c2'],v.oneCell'=true:=fun v hv=>by
    simp only[List.mem_cons,List.not_mem_nil,or_false] at hv
    rcases hv with rfl|rfl|rfl<;>rfl
   have hp9:=(Blk.new wr 36 [b8 kind,.slice A1 key.length c1',.slice A2 val.length c2']).whole
   have HB:=hid (Qb wr (.cells [b8 kind,.slice A1 key.length c1',.slice A2 val.length c2'].toArray 36))
   have HX:=hid (Qa hea (Qa hbk hnx))
   have h63:j+1≤maxLen:=by simp only[maxLen];omega
   have hby:(j+1)*32≤140737488355328:=by omega
   clear hr hr1 hr2 hx hp hc1 hc2 hL hlb hea hbk hnx
   go_wp2_with (first
    |((with_reducible refine Qf 36 (.tmp 12) g (o+j*3) _ 3 _ rfl hp2 Tryz.underlying36 rfl (by kernel_rfl) ?_ ?_ ?_ ?_);rfl;rfl;rfl)
    |((with_reducible refine Qw 36 (.tmp 7) (.tmp 13) _ _ [b8 kind,.slice A1 key.length c1',.slice A2 val.length c2'] 3 rfl ?_ (by kernel_rfl) hoc ?_ ?_ ?_ ?_ ?_);rfl;rfl;rfl;rfl;rfl)
    |((with_reducible refine Qf 36 (.tmp 7) wr.heap.size 0 _ 3 _ rfl hp9 Tryz.underlying36 rfl (by kernel_rfl) ?_ ?_ ?_ ?_);rfl;rfl;rfl)
    |(go_at_call 100
      refine (Qcb n A6 n6 c6 (En.bytes ⟨kind,key,val⟩) w6 h2 H6.out.1 H6.out.2.1 (by have h1:=VK ⟨kind,key,val⟩ HX.out.2.1.1 HX.out.2.1.2;have h3:=H6.out.1;omega)).mono ?_
      rintro e w7 ⟨rfl,hb7⟩
      obtain⟨D,hD⟩:∃ D,D=Dg.leaf n (En.bytes ⟨kind,key,val⟩):=⟨_,rfl⟩
      rw[← hD]
      have hDl:D.length=32:=(by rw[hD];exact Yt n h2 _)
      have hyl:∀ x∈[D.map b8],x.length=32:=(fun x hx=>by rw[List.mem_singleton] at hx;subst hx;simp[hDl])
      have hyl2:[D.map b8].flatten.length=1*32:=(by simp[hDl])
      have hyo:∀ v∈[D.map b8].flatten,v.oneCell'=true:=(fun v hv=>Qi D v (by simpa using hv))
      have hb8:=gro (gro H6.out.2.2 hb7) (Qb w7 (.cells [D.map b8].flatten.toArray 40))
      have own8:=Qg HR.out.1 hb8
      have hr8:=Rd.of _ (Blk.new w7 40 [D.map b8].flatten).whole
      have hbs8:=(gro HR.out.2 hb8).size
      have H8:=hid (Qa hb8 (Qa own8 (Qa hr8 hD)))
      clear hb7 hb8 own8 hr8 hD hDl)
    |(go_at_call 101
      refine (WN _ ⟨kind,key,val⟩ _ (HX.out.1.grown (gro HR.out.2 HB.out)) HX.out.2.1.1 HX.out.2.1.2).mono ?_
      rintro e w6 ⟨A6,c6,n6,hn6,rfl,hb6,ho6⟩
      have H6:=hid (Qa hn6 (Qa (QU ho6).1 (gro HB.out hb6)))
      clear hn6 hb6 ho6)
    |((with_reducible refine QY 105 40 1 #[(0,.tmp 18)] [D.map b8] 32 (by decide) hyl rfl (by decide) (by decide) Tryz.underlying105 (by kernel_rfl) ?_ ?_ ?_ ?_);rfl;rfl;rfl)
    |((with_reducible refine Q1 (.tmp 14) (.tmp 19) 105 Tryz.underlying105 UD rfl (by decide) H8.out.2.1 1 1 hyl2 H8.out.2.2.1 hyo h63 hby hbs8 ?_ ?_ ?_ ?_ ?_);rfl;rfl;rfl;rfl
      intro v9 w9 hn1 hn2 hn3 hn4
      obtain⟨A9,c9,rfl,hr9,hc9⟩:=QC hn1
      have hb9:=QB H8.out.2.1 (gro HR.out.2 H8.out.1) hbs8 hn2
      have H9:=hid (Qa hn1 hb9)
      clear hn1 hn2 hn3 hn4 hr9 hc9 hb9))
   go_roundg (gk-1)
   case measure=>omega
   case rel=>
    refine⟨j+1,A9,c9,by omega,by go_num,rfl,?_,H9.out.2⟩
    rw[HX.out.2.2,←H8.out.2.2.2]
    have:=H9.out.1
    simpa using this
  ·obtain rfl:j=m:=by omega
   have hel:=HR.out.1
   rw[← hm,List.take_length,hm] at hel
   have h9:=QU hel
   have HE9:=hid h9
   clear hel h9
   go_wp2_with fail
   go_ret
   exact⟨Ar,cr,rfl,HR.out.2,HE9.out.1,HE9.out.2⟩
end Go.Proofs.YtpnakfeafekneaaGreatDoor
