/- Part 36 of this proof: VR, VS, VT, VU. -/
import Derived.Test.YtpnakfeafekneaaGreatDoorG35
set_option linter.unusedSimpArgs false
set_option linter.unusedVariables false
/- The reference's digests: NoMap, NoLog, LeafInput, KeyInput, Leaf, Key. -/
namespace Go.Proofs.YtpnakfeafekneaaGreatDoor
open Go.RowKit

theorem rnolog_any (n : Nat) (w : World) (h2 : n ≤ 32) : Calls Tryz.prog 97 #[.int .i64 n] w fun e w' => e = .returned (dg (Dg.noLog n)) ∧ Below w.heap.size w w' := by
  have hl : ((Dg.noLog n).map b8).length = 32 := by rw [List.length_map]; exact Dg.sum_length n _ h2
  have HB0 := hid (And.intro (Blk.new w 40 (List.replicate 32 (b8 0))) (below_box w (.cells (List.replicate 32 (b8 0)).toArray 40)))
  obtain ⟨D, hD⟩ : ∃ D, D = Dg.noLog n := ⟨_, rfl⟩
  rw [← hD] at hl ⊢
  have HD := hid hD
  clear hD
  go_enter Tryz.func97, Tryz.ntmps97
  go_wp2_with (first
    | (go_at_call 44
       refine (rcut_any n none 0 0 [] _ h2 rfl (Rd.nil _ _) (Nat.le_refl _) (by omega)).mono ?_
       rintro e w2 ⟨rfl, hb2⟩
       rw [show dg (Dg.sum n []) = dg D from by rw [HD.out]; rfl]
       have ht := (HB0.out.1.grown hb2).there 0 32 (by simp)
       have H2 := hid (gro HB0.out.2 hb2)
       clear hb2)
    | ((with_reducible refine st_mid 40 (.tmp 2) (.tmp 4) w.heap.size 0 _ 32 hl ht (by kernel_rfl) (one_b8 _) ?_ ?_ ?_ ?_ ?_); rfl; rfl; rfl; rfl))
  exact rt_cell w.heap.size 0 _ 32 _ hl (World.rangeAt_setCells_same _ _ _ _ (by rw [hl]; exact ht)) Tryz.underlying40 rfl (by kernel_rfl) rfl rfl rfl ⟨rfl, below_setCells _ (Nat.le_refl _) _ _ _ H2.out⟩

theorem rnomap_any (n : Nat) (w : World) (h2 : n ≤ 32) : Calls Tryz.prog 16 #[.int .i64 n] w fun e w' => e = .returned (dg (Dg.noMap n)) ∧ Below w.heap.size w w' := by
  have hl : ((Dg.noMap n).map b8).length = 32 := by rw [List.length_map]; exact Dg.sum_length n _ h2
  have hrd := hid (show Rd ((w.alloc (.cells (List.replicate 32 (b8 0)).toArray 40)).alloc (.cells #[.int .u8 5] 5)) (some ⟨(w.alloc (.cells (List.replicate 32 (b8 0)).toArray 40)).heap.size, 0, none⟩) ([(5 : UInt8)].map b8) from rd_box _ 5)
  rw [show (w.alloc (.cells (List.replicate 32 (b8 0)).toArray 40)).heap.size = w.heap.size + 1 from by simp] at hrd
  have HB0 := hid (And.intro ((Blk.new w 40 (List.replicate 32 (b8 0))).alloc (.cells #[.int .u8 5] 5)) (gro (below_box w (.cells (List.replicate 32 (b8 0)).toArray 40)) (below_box _ (.cells #[.int .u8 5] 5))))
  obtain ⟨D, hD⟩ : ∃ D, D = Dg.noMap n := ⟨_, rfl⟩
  rw [← hD] at hl ⊢
  have HD := hid hD
  clear hD
  go_enter Tryz.func16, Tryz.ntmps16
  go_wp2_with (first
    | (go_at_call 44
       refine (rcut_any n _ 1 1 [5] _ h2 rfl hrd.out (Nat.le_refl _) (by omega)).mono ?_
       rintro e w2 ⟨rfl, hb2⟩
       rw [show dg (Dg.sum n [5]) = dg D from by rw [HD.out]; rfl]
       have ht := (HB0.out.1.grown hb2).there 0 32 (by simp)
       have H2 := hid (gro HB0.out.2 hb2)
       clear hb2)
    | ((with_reducible refine st_mid 40 (.tmp 2) (.tmp 5) w.heap.size 0 _ 32 hl ht (by kernel_rfl) (one_b8 _) ?_ ?_ ?_ ?_ ?_); rfl; rfl; rfl; rfl))
  exact rt_cell w.heap.size 0 _ 32 _ hl (World.rangeAt_setCells_same _ _ _ _ (by rw [hl]; exact ht)) Tryz.underlying40 rfl (by kernel_rfl) rfl rfl rfl ⟨rfl, below_setCells _ (Nat.le_refl _) _ _ _ H2.out⟩

theorem rleafin_any (A : Option Addr) (m c : Nat) (l : List UInt8) (w : World) (hm : l.length = m) (h : Rd w A (l.map b8)) (hl : m < 549755813888) :
    Calls Tryz.prog 147 #[.slice A m c] w (Nb w (Dg.leafIn l)) := by
  have hrd := hid (show Rd (w.alloc (.cells #[.int .u8 0] 5)) (some ⟨w.heap.size, 0, none⟩) ([(0 : UInt8)].map b8) from rd_box w 0)
  have HH := hid (And.intro hm h)
  clear hm h
  go_enter Tryz.func147, Tryz.ntmps147
  go_wp2_with (go_at_call 148
               refine (join_any _ 1 1 [0] A m c l _ rfl HH.out.1 hrd.out (HH.out.2.grown (below_box w _)) (by omega)).mono ?_
               rintro e w1 ⟨A1, c1, n1, hn1, rfl, hb1, ho1⟩
               have H1 := hid (And.intro hn1 (And.intro hb1 ho1))
               clear hn1 hb1 ho1)
  go_ret
  exact ⟨A1, c1, n1, H1.out.1, rfl, gro (below_box w _) H1.out.2.1, own_base H1.out.2.2 (fun k hk => Nat.le_trans (below_box w (.cells #[.int .u8 0] 5)).size ((H1.out.2.2.lt k hk).1))⟩

theorem rkeyin_any (A : Option Addr) (m c : Nat) (l : List UInt8) (w : World) (hm : l.length = m) (h : Rd w A (l.map b8)) (hl : m < 549755813888) :
    Calls Tryz.prog 215 #[.slice A m c] w (Nb w (Dg.keyIn l)) := by
  have hrd := hid (show Rd (w.alloc (.cells #[.int .u8 2] 5)) (some ⟨w.heap.size, 0, none⟩) ([(2 : UInt8)].map b8) from rd_box w 2)
  have HH := hid (And.intro hm h)
  clear hm h
  go_enter Tryz.func215, Tryz.ntmps215
  go_wp2_with (go_at_call 148
               refine (join_any _ 1 1 [2] A m c l _ rfl HH.out.1 hrd.out (HH.out.2.grown (below_box w _)) (by omega)).mono ?_
               rintro e w1 ⟨A1, c1, n1, hn1, rfl, hb1, ho1⟩
               have H1 := hid (And.intro hn1 (And.intro hb1 ho1))
               clear hn1 hb1 ho1)
  go_ret
  exact ⟨A1, c1, n1, H1.out.1, rfl, gro (below_box w _) H1.out.2.1, own_base H1.out.2.2 (fun k hk => Nat.le_trans (below_box w (.cells #[.int .u8 2] 5)).size ((H1.out.2.2.lt k hk).1))⟩

set_option maxRecDepth 100000 in
theorem rleaf_any (n : Nat) (A : Option Addr) (m c : Nat) (l : List UInt8) (w : World) (h2 : n ≤ 32) (hm : l.length = m) (h : Rd w A (l.map b8)) (hl0 : m < 274877906944) :
    Calls Tryz.prog 100 #[.int .i64 n, .slice A m c] w fun e w' => e = .returned (dg (Dg.leaf n l)) ∧ Below w.heap.size w w' := by
  have hl : ((Dg.leaf n l).map b8).length = 32 := by rw [List.length_map]; exact Dg.sum_length n _ h2
  obtain ⟨D, hD⟩ : ∃ D, D = Dg.leaf n l := ⟨_, rfl⟩
  have hD' : Dg.sum n (Dg.leafIn l) = D := hD.symm
  rw [← hD] at hl ⊢
  have hb0 := Blk.new w 40 (List.replicate 32 (b8 0))
  have HB0 := hid (And.intro hb0 hD')
  clear hb0 hD hD'
  go_enter Tryz.func100, Tryz.ntmps100
  go_wp2_with (first
    | (go_at_call 44
       refine (rcut_any n A1 n1 c1 (Dg.leafIn l) w1 h2 H1.out.1 H1.out.2.2.1 H1.out.2.2.2.1 (by have h9 := H1.out.1; have h8 : (Dg.leafIn l).length = m + 1 := (by rw [← hm]; rfl); omega)).mono ?_
       rintro e w2 ⟨rfl, hb2⟩
       rw [HB0.out.2]
       have ht := ((HB0.out.1.grown H1.out.2.1).grown hb2).there 0 32 (by simp)
       have H2 := hid (gro H1.out.2.2.2.2 hb2)
       clear hb2)
    | (go_at_call 147
       refine (rleafin_any A m c l _ hm (h.grown (below_box w _)) (by omega)).mono ?_
       rintro e w1 ⟨A1, c1, n1, hn1, rfl, hb1, ho1⟩
       have H1 := hid (And.intro hn1 (And.intro hb1 (And.intro (own_rd ho1).1 (And.intro (own_rd ho1).2 (gro (below_box w _) hb1)))))
       clear hn1 hb1 ho1)
    | ((with_reducible refine st_mid 40 (.tmp 4) (.tmp 8) w.heap.size 0 _ 32 hl ht (by kernel_rfl) (one_b8 _) ?_ ?_ ?_ ?_ ?_); rfl; rfl; rfl; rfl))
  exact rt_cell w.heap.size 0 _ 32 _ hl (World.rangeAt_setCells_same _ _ _ _ (by rw [hl]; exact ht)) Tryz.underlying40 rfl (by kernel_rfl) rfl rfl rfl ⟨rfl, below_setCells _ (Nat.le_refl _) _ _ _ H2.out⟩

set_option maxRecDepth 100000 in
theorem rkey_any (n : Nat) (A : Option Addr) (m c : Nat) (l : List UInt8) (w : World) (h2 : n ≤ 32) (hm : l.length = m) (h : Rd w A (l.map b8)) (hl0 : m < 274877906944) :
    Calls Tryz.prog 197 #[.int .i64 n, .slice A m c] w fun e w' => e = .returned (dg (Dg.key n l)) ∧ Below w.heap.size w w' := by
  have hl : ((Dg.key n l).map b8).length = 32 := by rw [List.length_map]; exact Dg.sum_length n _ h2
  obtain ⟨D, hD⟩ : ∃ D, D = Dg.key n l := ⟨_, rfl⟩
  have hD' : Dg.sum n (Dg.keyIn l) = D := hD.symm
  rw [← hD] at hl ⊢
  have hb0 := Blk.new w 40 (List.replicate 32 (b8 0))
  have HB0 := hid (And.intro hb0 hD')
  clear hb0 hD hD'
  go_enter Tryz.func197, Tryz.ntmps197
  go_wp2_with (first
    | (go_at_call 44
       refine (rcut_any n A1 n1 c1 (Dg.keyIn l) w1 h2 H1.out.1 H1.out.2.2.1 H1.out.2.2.2.1 (by have h9 := H1.out.1; have h8 : (Dg.keyIn l).length = m + 1 := (by rw [← hm]; rfl); omega)).mono ?_
       rintro e w2 ⟨rfl, hb2⟩
       rw [HB0.out.2]
       have ht := ((HB0.out.1.grown H1.out.2.1).grown hb2).there 0 32 (by simp)
       have H2 := hid (gro H1.out.2.2.2.2 hb2)
       clear hb2)
    | (go_at_call 215
       refine (rkeyin_any A m c l _ hm (h.grown (below_box w _)) (by omega)).mono ?_
       rintro e w1 ⟨A1, c1, n1, hn1, rfl, hb1, ho1⟩
       have H1 := hid (And.intro hn1 (And.intro hb1 (And.intro (own_rd ho1).1 (And.intro (own_rd ho1).2 (gro (below_box w _) hb1)))))
       clear hn1 hb1 ho1)
    | ((with_reducible refine st_mid 40 (.tmp 4) (.tmp 8) w.heap.size 0 _ 32 hl ht (by kernel_rfl) (one_b8 _) ?_ ?_ ?_ ?_ ?_); rfl; rfl; rfl; rfl))
  exact rt_cell w.heap.size 0 _ 32 _ hl (World.rangeAt_setCells_same _ _ _ _ (by rw [hl]; exact ht)) Tryz.underlying40 rfl (by kernel_rfl) rfl rfl rfl ⟨rfl, below_setCells _ (Nat.le_refl _) _ _ _ H2.out⟩
end Go.Proofs.YtpnakfeafekneaaGreatDoor

/- The reference's digests: NodeInput, Node. -/
namespace Go.Proofs.YtpnakfeafekneaaGreatDoor
open Go.RowKit
set_option maxHeartbeats 1000000 in
set_option maxRecDepth 100000 in
theorem rnodein_any (n : Nat) (l r : List UInt8) (w : World) (h2 : n ≤ 32) (hl : l.length = 32) (hr : r.length = 32) :
    Calls Tryz.prog 146 #[.int .i64 n, dg l, dg r] w (Nb w (Dg.nodeIn n l r)) := by
  have s1 := run_sliceAt_hi (P := Tryz.prog) Tryz.underlying40 (by kernel_rfl) w.heap.size 0 n h2
  have s2 := run_sliceAt_hi (P := Tryz.prog) Tryz.underlying40 (by kernel_rfl) (w.heap.size + 1) 0 n h2
  have hb1 := (Blk.new w 40 (l.map b8)).alloc (.cells (r.map b8).toArray 40)
  have hb2 := Blk.new (w.alloc (.cells (l.map b8).toArray 40)) 40 (r.map b8)
  rw [show (w.alloc (.cells (l.map b8).toArray 40)).heap.size = w.heap.size + 1 by simp] at hb2
  have hbl := gro (below_box w (.cells (l.map b8).toArray 40)) (below_box _ (.cells (r.map b8).toArray 40))
  have htl : (l.take n).length = n := by simp [hl]; omega
  have htr : (r.take n).length = n := by simp [hr]; omega
  have HB0 := hid (And.intro hb1 (And.intro hb2 hbl))
  have HL := hid (And.intro htl htr)
  clear hb1 hb2 hbl htl htr
  go_enter Tryz.func146, Tryz.ntmps146
  go_upto_region 1 with fail
  refine wp_world (fun w' => Blk w' w.heap.size 40 (l.map b8) ∧ Blk w' (w.heap.size + 1) 40 (r.map b8) ∧ Below w.heap.size w w') HB0.out ?_
  rintro w1 ⟨hb1, hb2, hbl⟩
  have hd : Below w1.heap.size w1 w1.drew := (Below.refl _ _).drew
  have hda : Below w1.heap.size w1 (w1.alloc (.cells #[.int .u8 1] 5)).drew := (below_box w1 (.cells #[.int .u8 1] 5)).trans (Below.refl _ _).drew
  have hcl : ∀ w', Below w1.heap.size w1 w' → Calls Tryz.prog 148 #[.slice (some ⟨w.heap.size, 0, none⟩) n 32, .slice (some ⟨w.heap.size + 1, 0, none⟩) n 32] w' (Nb w' (l.take n ++ r.take n)) := fun w' hb =>
    join_any _ n 32 (l.take n) _ n 32 (r.take n) w' HL.out.1 HL.out.2 (by rw [List.map_take]; exact (Rd.of _ (hb1.grown hb).whole).take n) (by rw [List.map_take]; exact (Rd.of _ (hb2.grown hb).whole).take n) (by omega)
  have HR1 := hid (show ∀ w4 : World, Rd (w4.alloc (.cells #[.int .u8 1] 5)) (some ⟨w4.heap.size, 0, none⟩) ([(1 : UInt8)].map b8) from fun w4 => rd_box w4 1)
  have HT := hid (And.intro hcl (And.intro hd (And.intro hda hbl)))
  clear hcl hd hda hbl hb1 hb2 HB0
  go_region_held3 (fun _ => True) (exact True.intro)
    (first
      | (go_at_call 148
         with_reducible refine Calls.mono (join_any (some ⟨w1.heap.size, 0, none⟩) 1 1 [1] A4 n4 c4 (l.take n ++ r.take n) w4 rfl K4.out.2.1 K4.out.2.2.2 K4.out.2.2.1 (by have h := K4.out.2.1; rw [List.length_append, HL.out.1, HL.out.2] at h; omega)) ?_
         rintro ee w5 ⟨A5, c5, n5, hn5, rfl, hb5, ho5⟩
         have H5 := hid (And.intro hn5 (And.intro (gro (gro HT.out.2.2.2 K4.out.1) hb5) (own_base ho5 (fun k hk => Nat.le_trans (gro HT.out.2.2.2 K4.out.1).size ((ho5.lt k hk).1)))))
         clear hn5 hb5 ho5)
      | (go_at_call 148
         with_reducible refine Calls.mono (join_any (some ⟨w4.heap.size, 0, none⟩) 1 1 [1] A4 n4 c4 (l.take n ++ r.take n) _ rfl V4.out.2.1 (HR1.out w4) (V4.out.2.2.1.grown (below_box w4 _)) (by have h := V4.out.2.1; rw [List.length_append, HL.out.1, HL.out.2] at h; omega)) ?_
         rintro ee w5 ⟨A5, c5, n5, hn5, rfl, hb5, ho5⟩
         have H5 := hid (And.intro hn5 (And.intro (gro (gro HT.out.2.2.2 V4.out.2.2.2) hb5) (own_base ho5 (fun k hk => Nat.le_trans (gro HT.out.2.2.2 V4.out.2.2.2).size ((ho5.lt k hk).1)))))
         clear hn5 hb5 ho5)
      | (go_at_call 148
         with_reducible refine Calls.mono (HT.out.1 _ HT.out.2.2.1) ?_
         rintro ee w4 ⟨A4, c4, n4, hn4, rfl, hb4, ho4⟩
         have K4 := hid (And.intro (gro HT.out.2.2.1 hb4) (And.intro hn4 (And.intro (own_rd ho4).1 (show Rd w4 (some ⟨w1.heap.size, 0, none⟩) ([(1 : UInt8)].map b8) from rd_grown_box 1 hb4))))
         clear hn4 hb4 ho4)
      | (go_at_call 148
         with_reducible refine Calls.mono (HT.out.1 _ HT.out.2.1) ?_
         rintro ee w4 ⟨A4, c4, n4, hn4, rfl, hb4, ho4⟩
         have V4 := hid (And.intro (gro HT.out.2.1 hb4) (And.intro hn4 (And.intro (own_rd ho4).1 (gro (gro HT.out.2.1 hb4) (below_box w4 (.cells #[.int .u8 1] 5))))))
         clear hn4 hb4 ho4))
  all_goals
    go_wp2_with fail
    go_ret
    exact ⟨A5, c5, n5, H5.out.1, rfl, H5.out.2.1, H5.out.2.2⟩
set_option maxRecDepth 100000 in
theorem rnode_any (n : Nat) (l r : List UInt8) (w : World) (h2 : n ≤ 32) (hl0 : l.length = 32) (hr0 : r.length = 32) :
    Calls Tryz.prog 99 #[.int .i64 n, dg l, dg r] w fun e w' => e = .returned (dg (Dg.node n l r)) ∧ Below w.heap.size w w' := by
  have hl : ((Dg.node n l r).map b8).length = 32 := by rw [List.length_map]; exact Dg.sum_length n _ h2
  have hll : (l.map b8).length = 32 := by rw [List.length_map, hl0]
  have hrl : (r.map b8).length = 32 := by rw [List.length_map, hr0]
  obtain ⟨D, hD⟩ : ∃ D, D = Dg.node n l r := ⟨_, rfl⟩
  have hD' : Dg.sum n (Dg.nodeIn n l r) = D := hD.symm
  rw [← hD] at hl ⊢
  have hb1 := ((Blk.new w 40 (l.map b8)).alloc (.cells (r.map b8).toArray 40)).alloc (.cells (List.replicate 32 (b8 0)).toArray 40)
  have hb2 := (Blk.new (w.alloc (.cells (l.map b8).toArray 40)) 40 (r.map b8)).alloc (.cells (List.replicate 32 (b8 0)).toArray 40)
  have hb3 := Blk.new ((w.alloc (.cells (l.map b8).toArray 40)).alloc (.cells (r.map b8).toArray 40)) 40 (List.replicate 32 (b8 0))
  rw [show (w.alloc (.cells (l.map b8).toArray 40)).heap.size = w.heap.size + 1 by simp] at hb2
  rw [show ((w.alloc (.cells (l.map b8).toArray 40)).alloc (.cells (r.map b8).toArray 40)).heap.size = w.heap.size + 1 + 1 by simp] at hb3
  have hbl := gro (gro (below_box w (.cells (l.map b8).toArray 40)) (below_box _ (.cells (r.map b8).toArray 40))) (below_box _ (.cells (List.replicate 32 (b8 0)).toArray 40))
  have HB0 := hid (And.intro hb1 (And.intro hb2 (And.intro hb3 hbl)))
  have HD := hid (And.intro hD' (And.intro hl0 hr0))
  clear hb1 hb2 hb3 hbl hD hD'
  go_enter Tryz.func99, Tryz.ntmps99
  go_upto_region 1 with fail
  refine wp_world (fun w' => Blk w' w.heap.size 40 (l.map b8) ∧ Blk w' (w.heap.size + 1) 40 (r.map b8) ∧ Blk w' (w.heap.size + 1 + 1) 40 (List.replicate 32 (b8 0)) ∧ Below w.heap.size w w') HB0.out ?_
  rintro w0 ⟨hb1, hb2, hb3, hbl⟩
  have p1 := hb1.whole
  have p2 := hb2.whole
  have HW := hid (And.intro hb3 hbl)
  clear hb1 hb2 hb3 hbl HB0
  go_wp2_with (first
    | ((with_reducible refine ld_mid 40 (.tmp 4) w.heap.size 0 _ 32 _ hll p1 Tryz.underlying40 rfl (by kernel_rfl) ?_ ?_ ?_ ?_); rfl; rfl; rfl)
    | ((with_reducible refine ld_mid 40 (.tmp 5) (w.heap.size + 1) 0 _ 32 _ hrl p2 Tryz.underlying40 rfl (by kernel_rfl) ?_ ?_ ?_ ?_); rfl; rfl; rfl)
    | (go_at_call 44
       refine (rcut_any n A1 n1 c1 (Dg.nodeIn n l r) w1 h2 H1.out.1 H1.out.2.2.1 H1.out.2.2.2.1 (by have h9 := H1.out.1; unfold Dg.nodeIn at h9; simp at h9; omega)).mono ?_
       rintro e w2 ⟨rfl, hb2⟩
       rw [HD.out.1]
       have ht := ((HW.out.1.grown H1.out.2.1).grown hb2).there 0 32 (by simp)
       have H2 := hid (gro H1.out.2.2.2.2 hb2)
       clear hb2)
    | (go_at_call 146
       refine (rnodein_any n l r _ h2 HD.out.2.1 HD.out.2.2).mono ?_
       rintro e w1 ⟨A1, c1, n1, hn1, rfl, hb1, ho1⟩
       have H1 := hid (And.intro hn1 (And.intro hb1 (And.intro (own_rd ho1).1 (And.intro (own_rd ho1).2 (gro HW.out.2 hb1)))))
       clear hn1 hb1 ho1)
    | ((with_reducible refine st_mid 40 (.tmp 6) (.tmp 12) (w.heap.size + 1 + 1) 0 _ 32 hl ht (by kernel_rfl) (one_b8 _) ?_ ?_ ?_ ?_ ?_); rfl; rfl; rfl; rfl))
  exact rt_cell (w.heap.size + 1 + 1) 0 _ 32 _ hl (World.rangeAt_setCells_same _ _ _ _ (by rw [hl]; exact ht)) Tryz.underlying40 rfl (by kernel_rfl) rfl rfl rfl ⟨rfl, below_setCells _ (by omega) _ _ _ H2.out⟩
end Go.Proofs.YtpnakfeafekneaaGreatDoor

/- The reference's digests: BucketInput, Bucket. -/
namespace Go.Proofs.YtpnakfeafekneaaGreatDoor
open Go.RowKit
/-- Bytes appended to a row of the call's own, with what is kept. -/
theorem ap_bytesK {ops : Array Oper} {rest : List Oper} {o : Oper} {a : Act} {w w0 : World} {Q : Exit → Act → World → Prop} (s x : Operand) {base n : Nat} {v : Value} {l : List UInt8} (hown : w.ownsRow base 5 1 v n (l.map b8)) (A : Option Addr) (m c N : Nat) (hN : N = n + m) (p : List UInt8) (hm : p.length = m) (hr : Rd w A (p.map b8))
    (hlen : n + m < 70368744177664) (hbl : Below base w0 w) (hbase : base ≤ w.heap.size)
    (hgd : o.guard = none) (ho : o.op = .call { callee := .builtin .append, args := #[s, x], argTypes := #[34, 34] }) (hs : a.eval s = v) (hx : a.eval x = .slice A m c)
    (h : ∀ A' c' w', w'.ownsRow base 5 1 (.slice A' N c') N ((l ++ p).map b8) → Below base w0 w' → But 5 w w' → wpList Tryz.prog ops Q rest (a.put o.dst (.slice A' N c')) w') : wpList Tryz.prog ops Q (o :: rest) a w := by
  subst hN
  refine ap_own s x 34 Tryz.underlying34 info_u8 rfl (by decide) hown m c (by simp [hm]) hr (one_b8 p) (by unfold maxLen; omega) (by omega) hbase hgd ho hs hx ?_
  intro v' w' h1 h2 _ _
  obtain ⟨A', c', rfl, _, _⟩ := rd_own h1
  refine h A' c' w' ?_ (grownBy_below hown hbl hbase h2) (But.append hown h2)
  rw [List.map_append]; exact h1
theorem rd_pair {w : World} {A : Option Addr} {L : List (List Value)} {ps : List Pr} (hA : Rd w A L.flatten) (hP : PairsAt w L ps) (j : Nat) (hj : j < ps.length) : ∃ g o A1 c1 A2 c2, A = some ⟨g, o, none⟩ ∧ w.rangeAt g (o + j * 2) [.slice A1 ps[j].key.length c1, .slice A2 ps[j].val.length c2] ∧ Rd w A1 (ps[j].key.map b8) ∧ Rd w A2 (ps[j].val.map b8) ∧ ps[j].key.length ≤ c1 ∧ ps[j].val.length ≤ c2 ∧ Tyd w 5 A1 ∧ Tyd w 5 A2 := by
  have hL := hP.len
  have hjl : j < L.length := by omega
  obtain ⟨g, o, rfl, hr⟩ := hA (by
    intro e
    have := flatten_len 2 _ hP.two
    rw [e] at this
    simp at this; omega)
  have hp := range_part hr hP.two j hjl
  obtain ⟨A1, c1, A2, c2, hx, h1, h2, h3, h4, h5, h6⟩ := hP.at_ j L[j] ps[j] (by simp [hjl]) (by simp [hj])
  rw [hx] at hp
  exact ⟨g, o, A1, c1, A2, c2, rfl, hp, h1, h2, h3, h4, h5.1, h6.1⟩
def bkPart (ps : List Pr) (m j : Nat) : List UInt8 := 3 :: (Wi.uvar m ++ (ps.take j).flatMap fun p => Wi.blob p.key ++ Wi.blob p.val)
theorem bkPart_next (ps : List Pr) (m j : Nat) (hj : j < ps.length) : bkPart ps m (j + 1) = (bkPart ps m j ++ Wi.blob ps[j].key) ++ Wi.blob ps[j].val := by
  unfold bkPart
  rw [List.take_succ_eq_append_getElem hj, List.flatMap_append]
  simp
theorem flatMap_take_le {α : Type} (f : α → List UInt8) (ps : List α) (j : Nat) : ((ps.take j).flatMap f).length ≤ (ps.flatMap f).length := by
  conv => rhs; rw [← List.take_append_drop j ps, List.flatMap_append, List.length_append]
  omega
set_option maxHeartbeats 2000000 in
set_option maxRecDepth 100000 in
theorem rbkin_any (A : Option Addr) (m c : Nat) (L : List (List Value)) (ps : List Pr) (w : World) (hm : ps.length = m) (hA : Rd w A L.flatten) (hP : PairsAt w L ps) (hlen : prSize ps < 2199023255552) (hn : m < 1048576) (hsz : ∀ p ∈ ps, p.key.length < 1048576 ∧ p.val.length < 1048576) :
    Calls Tryz.prog 194 #[.slice A m c] w (Nb w (Dg.bucketIn ps)) := by
  have hul := Wi.uvar_length 9 m (by omega)
  have hrd := hid (show Rd (w.alloc (.cells #[.int .u8 3] 5)) (some ⟨w.heap.size, 0, none⟩) ([(3 : UInt8)].map b8) from rd_box w 3)
  have HA := hid (And.intro hA (And.intro hP (And.intro hlen (And.intro hsz hul))))
  clear hA hP hlen hsz hul
  go_enter Tryz.func194, Tryz.ntmps194
  go_wp2_with (first
    | (go_at_call 148
       refine (join_any (some ⟨w.heap.size, 0, none⟩) 1 1 [3] A1 n1 c1 (Wi.uvar m) w1 rfl H1.out.1 H1.out.2.2.2 H1.out.2.2.1 (by have h1 := H1.out.1; have h2 := HA.out.2.2.2.2; omega)).mono ?_
       rintro e w2 ⟨A2, c2, n2, hn2, rfl, hb2, ho2⟩
       have H2 := hid (And.intro hn2 (And.intro (gro H1.out.2.1 hb2) (own_base ho2 (fun k hk => Nat.le_trans H1.out.2.1.size ((ho2.lt k hk).1)))))
       clear hn2 hb2 ho2)
    | (go_at_call 193
       refine (ruvar_any m _ (by omega)).mono ?_
       rintro e w1 ⟨A1, c1, n1, hn1, rfl, hb1, ho1⟩
       have H1 := hid (And.intro hn1 (And.intro (gro (below_box w (.cells #[.int .u8 3] 5)) hb1) (And.intro (own_rd ho1).1 (hrd.out.grown hb1))))
       clear hn1 hb1 ho1))
  go_loopg [3, 14] m (fun g s3 i wr => ∃ (j : Nat) (A' : Option Addr) (c' N : Nat), j + g = m ∧ i = .int .i64 j ∧ s3 = .slice A' N c' ∧ (bkPart ps m j).length = N ∧ wr.ownsRow w.heap.size 5 1 (.slice A' N c') N ((bkPart ps m j).map b8) ∧ Below w.heap.size w wr)
  case atStart => exact ⟨0, A2, c2, n2, by omega, rfl, rfl, by rw [← H2.out.1]; simp [bkPart], by simpa [bkPart] using H2.out.2.2, H2.out.2.1⟩
  case round =>
    clear H2 H1
    obtain ⟨j, A', c', N, hj, rfl, rfl, hNl, ho, hbl⟩ := hrel
    have hN : N < 4398046511104 := by
      have h1 := flatMap_take_le (fun p : Pr => Wi.blob p.key ++ Wi.blob p.val) ps j
      have h2 := HA.out.2.2.2.2
      have h3 := HA.out.2.2.1
      unfold prSize at h3
      rw [← hNl]; unfold bkPart; simp only [List.length_cons, List.length_append]; omega
    have HR := hid (And.intro hNl (And.intro ho hbl))
    clear hNl ho hbl
    by_cases hlt : j < m
    · have hjp : j < ps.length := by omega
      obtain ⟨g, o, B1, d1, B2, d2, rfl, hp, hr1, hr2, hc1, hc2, -, -⟩ := rd_pair HA.out.1 HA.out.2.1 j hjp
      have hsz := HA.out.2.2.2.1 ps[j] (List.getElem_mem hjp)
      have hnx := bkPart_next ps m j hjp
      obtain ⟨key, hkey⟩ : ∃ k, k = ps[j].key := ⟨_, rfl⟩
      obtain ⟨val, hval⟩ : ∃ k, k = ps[j].val := ⟨_, rfl⟩
      rw [← hkey, ← hval] at hp hsz hnx
      rw [← hkey] at hr1
      rw [← hval] at hr2
      obtain ⟨nk, hnk⟩ : ∃ nk, key.length = nk := ⟨_, rfl⟩
      obtain ⟨nv, hnv⟩ : ∃ nv, val.length = nv := ⟨_, rfl⟩
      rw [hnk, hnv] at hp hsz
      have hlb := range_lt hp (by simp)
      have hp2 := range_below hp HR.out.2.2 hlb
      have hoc : ∀ v ∈ [Value.slice B1 nk d1, .slice B2 nv d2], v.oneCell' = true := fun v hv => by
        simp only [List.mem_cons, List.not_mem_nil, or_false] at hv
        rcases hv with rfl | rfl <;> rfl
      have hbk := Blk.new wr 166 [.slice B1 nk d1, .slice B2 nv d2]
      have k0 : (wr.alloc (.cells #[.slice B1 nk d1, .slice B2 nv d2] 166)).cell? ⟨wr.heap.size, 0, none⟩ = some (.slice B1 nk d1) := by rw [show (wr.alloc (.cells #[.slice B1 nk d1, .slice B2 nv d2] 166)) = (wr.alloc (.cells [.slice B1 nk d1, .slice B2 nv d2].toArray 166)) from rfl, hbk.cell]; rfl
      have hb1 := below_box wr (.cells #[.slice B1 nk d1, .slice B2 nv d2] 166)
      have hk1 := Wi.uvar_length 9 nk (by omega)
      have hk2 := Wi.uvar_length 9 nv (by omega)
      have hbl1 : (Wi.blob key).length = (Wi.uvar nk).length + nk := by unfold Wi.blob; rw [List.length_append, hnk]
      have hbl2 : (Wi.blob val).length = (Wi.uvar nv).length + nv := by unfold Wi.blob; rw [List.length_append, hnv]
      have HX := hid (And.intro hnk (And.intro hnv (And.intro hr1 (And.intro hr2 (And.intro hbk (And.intro hb1 (And.intro hnx (And.intro (show (Wi.blob key).length < 1048600 by omega) (show (Wi.blob val).length < 1048600 by omega)))))))))
      clear hnk hnv hr1 hr2 hbk hb1 hnx hkey hval hp hc1 hc2 hk1 hk2 hbl1 hbl2 hlb
      go_wp2_with (first
        | ((with_reducible refine ld_mid 166 (.tmp 16) g (o + j * 2) _ 2 _ rfl hp2 Tryz.underlying166 rfl (by kernel_rfl) ?_ ?_ ?_ ?_); rfl; rfl; rfl)
        | ((with_reducible refine st_new 166 (.tmp 5) (.tmp 17) _ _ [.slice B1 nk d1, .slice B2 nv d2] 2 rfl ?_ (by kernel_rfl) hoc ?_ ?_ ?_ ?_ ?_); rfl; rfl; rfl; rfl; rfl)
        | (go_at_call 149
           refine (rblob_any B2 nv d2 val w3 HX.out.2.1 (HX.out.2.2.2.1.grown H3.out.2.1) (by omega)).mono ?_
           rintro e w4 ⟨A4, c4, n4, hn4, rfl, hb4, ho4⟩
           have H4 := hid (And.intro hn4 (And.intro (own_rd ho4).1 (And.intro (own_grown H3.out.1 hb4) (gro H3.out.2.1 hb4))))
           have hn4b : n4 < 1048600 := (by have := HX.out.2.2.2.2.2.2.2.2; omega)
           clear hn4 hb4 ho4)
        | (go_at_call 149
           refine (rblob_any B1 nk d1 key _ HX.out.1 (HX.out.2.2.1.grown (gro HR.out.2.2 HX.out.2.2.2.2.2.1)) (by omega)).mono ?_
           rintro e w2' ⟨A2', c2', n2', hn2, rfl, hb2, ho2⟩
           have H2 := hid (And.intro hn2 (And.intro (own_rd ho2).1 (And.intro (own_grown (own_grown HR.out.2.1 HX.out.2.2.2.2.2.1) hb2) (And.intro (gro (gro HR.out.2.2 HX.out.2.2.2.2.2.1) hb2) (HX.out.2.2.2.2.1.grown hb2)))))
           have hn2b : n2' < 1048600 := (by have := HX.out.2.2.2.2.2.2.2.1; omega)
           clear hn2 hb2 ho2)
        | ((with_reducible refine ap_bytesK (.tmp 18) (.tmp 21) H2.out.2.2.1 A2' n2' c2' (N + n2') rfl (Wi.blob key) H2.out.1 H2.out.2.1 (by omega) H2.out.2.2.2.1 H2.out.2.2.2.1.size ?_ ?_ ?_ ?_ ?_); rfl; rfl; rfl; rfl
           intro A3 c3 w3 ho3 hb3 hst3
           have k3 := hst3.blk H2.out.2.2.2.2 (by decide)
           have k1 : w3.cell? ⟨wr.heap.size, 1, none⟩ = some (.slice B2 nv d2) := (by rw [k3.cell]; rfl)
           have H3 := hid (And.intro ho3 (And.intro hb3 k3))
           clear ho3 hb3 hst3 k3)
        | ((with_reducible refine ap_bytesK (.tmp 23) (.tmp 26) H4.out.2.2.1 A4 n4 c4 (N + n2' + n4) rfl (Wi.blob val) H4.out.1 H4.out.2.1 (by omega) H4.out.2.2.2 H4.out.2.2.2.size ?_ ?_ ?_ ?_ ?_); rfl; rfl; rfl; rfl
           intro A5 c5 w5 ho5 hb5 _
           have H5 := hid (And.intro ho5 hb5)
           clear ho5 hb5))
      go_roundg (gk - 1)
      case measure => omega
      case rel =>
        refine ⟨j + 1, A5, c5, N + n2' + n4, by omega, by go_num, rfl, ?_, ?_, H5.out.2⟩
        · rw [HX.out.2.2.2.2.2.2.1, List.length_append, List.length_append, HR.out.1, H2.out.1, H4.out.1]
        · rw [HX.out.2.2.2.2.2.2.1]; exact H5.out.1
    · obtain rfl : j = m := by omega
      have hfin : Dg.bucketIn ps = bkPart ps j j := by unfold Dg.bucketIn bkPart; rw [hm, List.take_of_length_le (by omega)]
      have HF := hid hfin
      clear hfin
      go_wp2_with fail
      go_ret
      exact ⟨A', c', N, by rw [HF.out]; exact HR.out.1, rfl, HR.out.2.2, by rw [HF.out]; exact HR.out.2.1⟩
end Go.Proofs.YtpnakfeafekneaaGreatDoor

/- The reference's digests: Bucket, BranchInput, Branch. -/
namespace Go.Proofs.YtpnakfeafekneaaGreatDoor
open Go.RowKit
theorem bkin_len (ps : List Pr) (hn : ps.length < 1048576) : (Dg.bucketIn ps).length ≤ 11 + prSize ps := by
  have := Wi.uvar_length 9 ps.length (by omega)
  unfold Dg.bucketIn prSize
  simp only [List.length_cons, List.length_append]
  omega
def brPart (n m : Nat) (ks : List (List UInt8)) (j : Nat) : List UInt8 := 4 :: (Wi.wide m 2 ++ kidCut n (ks.take j))
theorem brPart_next (n m : Nat) (ks : List (List UInt8)) (j : Nat) (hj : j < ks.length) : brPart n m ks (j + 1) = brPart n m ks j ++ ks[j].take n := by
  unfold brPart
  rw [kidCut_take n ks j hj]
  simp
theorem brPart_len (n m : Nat) (ks : List (List UInt8)) (j : Nat) (h2 : n ≤ 32) (hk : ks.length < 1048576) : (brPart n m ks j).length < 34359738368 := by
  unfold brPart
  have h1 := kidCut_len n (ks.take j)
  have h3 := Wi.wide_length m 2
  have h4 : (ks.take j).length ≤ ks.length := by simp; omega
  have h5 : n * (ks.take j).length ≤ 32 * ks.length := Nat.mul_le_mul h2 h4
  simp only [List.length_cons, List.length_append]
  omega
set_option maxHeartbeats 2000000 in
set_option maxRecDepth 100000 in
theorem rbrin_any (n : Nat) (bm : Nat) (A : Option Addr) (m c : Nat) (ks : List (List UInt8)) (w : World) (h2 : n ≤ 32) (hbm : bm < 65536) (hm : ks.length = m) (hd : ∀ d ∈ ks, d.length = 32) (hA : Rd w A (dgs ks).flatten) (hn : m < 1048576) :
    Calls Tryz.prog 196 #[.int .i64 n, .int .u16 bm, .slice A m c] w (Nb w (Dg.branchIn n bm ks)) := by
  have hrd := hid (show Rd (w.alloc (.cells #[.int .u8 4] 5)) (some ⟨w.heap.size, 0, none⟩) ([(4 : UInt8)].map b8) from rd_box w 4)
  have HA := hid (And.intro hA hd)
  clear hA hd
  go_enter Tryz.func196, Tryz.ntmps196
  go_wp2_with (first
    | (go_at_call 148
       refine (join_any (some ⟨w.heap.size, 0, none⟩) 1 1 [4] A1 n1 c1 (Wi.wide bm 2) w1 rfl H1.out.1 H1.out.2.2.2 H1.out.2.2.1 (by have h1 := H1.out.1; rw [Wi.wide_length] at h1; omega)).mono ?_
       rintro e w2 ⟨A2, c2, n2, hn2, rfl, hb2, ho2⟩
       have H2 := hid (And.intro hn2 (And.intro (gro H1.out.2.1 hb2) (own_base ho2 (fun k hk => Nat.le_trans H1.out.2.1.size ((ho2.lt k hk).1)))))
       clear hn2 hb2 ho2)
    | (go_at_call 214
       refine (rwide_any bm 2 _ (by omega) (by omega)).mono ?_
       rintro e w1 ⟨A1, c1, n1, hn1, rfl, hb1, ho1⟩
       have H1 := hid (And.intro hn1 (And.intro (gro (below_box w (.cells #[.int .u8 4] 5)) hb1) (And.intro (own_rd ho1).1 (hrd.out.grown hb1))))
       clear hn1 hb1 ho1))
  go_loopg [7, 17] m (fun g s3 i wr => ∃ (j : Nat) (A' : Option Addr) (c' N : Nat), j + g = m ∧ i = .int .i64 j ∧ s3 = .slice A' N c' ∧ (brPart n bm ks j).length = N ∧ wr.ownsRow w.heap.size 5 1 (.slice A' N c') N ((brPart n bm ks j).map b8) ∧ Below w.heap.size w wr)
  case atStart => exact ⟨0, A2, c2, n2, by omega, rfl, rfl, by rw [← H2.out.1]; simp [brPart, kidCut], by simpa [brPart, kidCut] using H2.out.2.2, H2.out.2.1⟩
  case round =>
    clear H2 H1
    obtain ⟨j, A', c', N, hj, rfl, rfl, hNl, ho, hbl⟩ := hrel
    have hN : N < 34359738368 := by rw [← hNl]; exact brPart_len n bm ks j h2 (by omega)
    have HR := hid (And.intro hNl (And.intro ho hbl))
    clear hNl ho hbl
    by_cases hlt : j < m
    · have hjp : j < ks.length := by omega
      have hl32 : ∀ x ∈ dgs ks, x.length = 32 := dgs_len HA.out.2
      have hjl : j < (dgs ks).length := by simpa [dgs] using hjp
      obtain ⟨g, o, rfl, hr⟩ := HA.out.1 (by
        intro e
        have := flatten_len 32 _ hl32
        rw [e] at this
        simp at this; omega)
      have hp := range_part hr hl32 j hjl
      have hlj : (dgs ks)[j].length = 32 := hl32 _ (List.getElem_mem hjl)
      have hej : (dgs ks)[j] = ks[j].map b8 := by simp [dgs]
      rw [hej] at hp hlj
      have hnx := brPart_next n bm ks j hjp
      obtain ⟨d, hd⟩ : ∃ d, d = ks[j] := ⟨_, rfl⟩
      rw [← hd] at hp hlj hnx
      have hlb := range_lt hp (by omega)
      have hp2 := range_below hp HR.out.2.2 hlb
      have htk : (d.take n).length = n := by rw [List.length_map] at hlj; rw [List.length_take]; omega
      have s1 := run_sliceAt_hi (P := Tryz.prog) Tryz.underlying40 (by kernel_rfl) wr.heap.size 0 n h2
      have hbx := below_box wr (.cells (d.map b8).toArray 40)
      have hrd2 : Rd (wr.alloc (.cells (d.map b8).toArray 40)) (some ⟨wr.heap.size, 0, none⟩) ((d.take n).map b8) := by rw [List.map_take]; exact (Rd.of _ (Blk.new wr 40 (d.map b8)).whole).take n
      have HX := hid (And.intro htk (And.intro hrd2 (And.intro (own_grown HR.out.2.1 hbx) (And.intro (gro HR.out.2.2 hbx) hnx))))
      clear htk hrd2 hbx hnx hd hp hlb hej hr hl32 hjl
      go_wp2_with (first
        | ((with_reducible refine ld_mid 40 (.tmp 19) g (o + j * 32) _ 32 _ hlj hp2 Tryz.underlying40 rfl (by kernel_rfl) ?_ ?_ ?_ ?_); rfl; rfl; rfl)
        | ((with_reducible refine st_new 40 (.tmp 9) (.tmp 20) _ _ (d.map b8) 32 hlj ?_ (by kernel_rfl) (one_b8 d) ?_ ?_ ?_ ?_ ?_); rfl; rfl; rfl; rfl; rfl)
        | ((with_reducible refine ap_bytes (.tmp 21) (.tmp 23) HX.out.2.2.1 (some ⟨wr.heap.size, 0, none⟩) n 32 (N + n) rfl (d.take n) HX.out.1 HX.out.2.1 (by omega) HX.out.2.2.2.1 HX.out.2.2.2.1.size ?_ ?_ ?_ ?_ ?_); rfl; rfl; rfl; rfl
           intro A5 c5 w5 ho5 hb5
           have H5 := hid (And.intro ho5 hb5)
           clear ho5 hb5))
      go_roundg (gk - 1)
      case measure => omega
      case rel =>
        refine ⟨j + 1, A5, c5, N + n, by omega, by go_num, rfl, ?_, ?_, H5.out.2⟩
        · rw [HX.out.2.2.2.2, List.length_append, HR.out.1, HX.out.1]
        · rw [HX.out.2.2.2.2]; exact H5.out.1
    · obtain rfl : j = m := by omega
      have hfin : Dg.branchIn n bm ks = brPart n bm ks j := by unfold Dg.branchIn brPart kidCut; rw [List.take_of_length_le (by omega)]
      have HF := hid hfin
      clear hfin
      go_wp2_with fail
      go_ret
      exact ⟨A', c', N, by rw [HF.out]; exact HR.out.1, rfl, HR.out.2.2, by rw [HF.out]; exact HR.out.2.1⟩

set_option maxRecDepth 100000 in
theorem rbucket_any (n : Nat) (A : Option Addr) (m c : Nat) (L : List (List Value)) (ps : List Pr) (w : World) (h2 : n ≤ 32) (hm : ps.length = m) (hA : Rd w A L.flatten) (hP : PairsAt w L ps) (hlen : prSize ps < 274877906944) (hn : m < 1048576) (hsz : ∀ p ∈ ps, p.key.length < 1048576 ∧ p.val.length < 1048576) :
    Calls Tryz.prog 151 #[.int .i64 n, .slice A m c] w fun e w' => e = .returned (dg (Dg.bucket n ps)) ∧ Below w.heap.size w w' := by
  have hl : ((Dg.bucket n ps).map b8).length = 32 := by rw [List.length_map]; exact Dg.sum_length n _ h2
  obtain ⟨D, hD⟩ : ∃ D, D = Dg.bucket n ps := ⟨_, rfl⟩
  have hD' : Dg.sum n (Dg.bucketIn ps) = D := hD.symm
  rw [← hD] at hl ⊢
  have hb0 := Blk.new w 40 (List.replicate 32 (b8 0))
  have HB0 := hid (And.intro hb0 hD')
  clear hb0 hD hD'
  go_enter Tryz.func151, Tryz.ntmps151
  go_wp2_with (first
    | (go_at_call 44
       refine (rcut_any n A1 n1 c1 (Dg.bucketIn ps) w1 h2 H1.out.1 H1.out.2.2.1 H1.out.2.2.2.1 (by have h9 := H1.out.1; have h8 := bkin_len ps (by omega); omega)).mono ?_
       rintro e w2 ⟨rfl, hb2⟩
       rw [HB0.out.2]
       have ht := ((HB0.out.1.grown H1.out.2.1).grown hb2).there 0 32 (by simp)
       have H2 := hid (gro H1.out.2.2.2.2 hb2)
       clear hb2)
    | (go_at_call 194
       refine (rbkin_any A m c L ps _ hm (hA.grown (below_box w _)) (hP.grown (below_box w _)) (by omega) hn hsz).mono ?_
       rintro e w1 ⟨A1, c1, n1, hn1, rfl, hb1, ho1⟩
       have H1 := hid (And.intro hn1 (And.intro hb1 (And.intro (own_rd ho1).1 (And.intro (own_rd ho1).2 (gro (below_box w _) hb1)))))
       clear hn1 hb1 ho1)
    | ((with_reducible refine st_mid 40 (.tmp 4) (.tmp 8) w.heap.size 0 _ 32 hl ht (by kernel_rfl) (one_b8 _) ?_ ?_ ?_ ?_ ?_); rfl; rfl; rfl; rfl))
  exact rt_cell w.heap.size 0 _ 32 _ hl (World.rangeAt_setCells_same _ _ _ _ (by rw [hl]; exact ht)) Tryz.underlying40 rfl (by kernel_rfl) rfl rfl rfl ⟨rfl, below_setCells _ (Nat.le_refl _) _ _ _ H2.out⟩

set_option maxRecDepth 100000 in
theorem rbranch_any (n : Nat) (bm : Nat) (A : Option Addr) (m c : Nat) (ks : List (List UInt8)) (w : World) (h2 : n ≤ 32) (hbm : bm < 65536) (hm : ks.length = m) (hd : ∀ d ∈ ks, d.length = 32) (hA : Rd w A (dgs ks).flatten) (hn : m < 1048576) :
    Calls Tryz.prog 154 #[.int .i64 n, .int .u16 bm, .slice A m c] w fun e w' => e = .returned (dg (Dg.branch n bm ks)) ∧ Below w.heap.size w w' := by
  have hl : ((Dg.branch n bm ks).map b8).length = 32 := by rw [List.length_map]; exact Dg.sum_length n _ h2
  obtain ⟨D, hD⟩ : ∃ D, D = Dg.branch n bm ks := ⟨_, rfl⟩
  have hD' : Dg.sum n (Dg.branchIn n bm ks) = D := hD.symm
  rw [← hD] at hl ⊢
  have hb0 := Blk.new w 40 (List.replicate 32 (b8 0))
  have HB0 := hid (And.intro hb0 hD')
  clear hb0 hD hD'
  go_enter Tryz.func154, Tryz.ntmps154
  go_wp2_with (first
    | (go_at_call 44
       refine (rcut_any n A1 n1 c1 (Dg.branchIn n bm ks) w1 h2 H1.out.1 H1.out.2.2.1 H1.out.2.2.2.1 (by have h9 := H1.out.1; have h8 := brPart_len n bm ks m h2 (by omega); rw [show brPart n bm ks m = Dg.branchIn n bm ks from by unfold Dg.branchIn brPart kidCut; rw [List.take_of_length_le (by omega)]] at h8; omega)).mono ?_
       rintro e w2 ⟨rfl, hb2⟩
       rw [HB0.out.2]
       have ht := ((HB0.out.1.grown H1.out.2.1).grown hb2).there 0 32 (by simp)
       have H2 := hid (gro H1.out.2.2.2.2 hb2)
       clear hb2)
    | (go_at_call 196
       refine (rbrin_any n bm A m c ks _ h2 hbm hm hd (hA.grown (below_box w _)) hn).mono ?_
       rintro e w1 ⟨A1, c1, n1, hn1, rfl, hb1, ho1⟩
       have H1 := hid (And.intro hn1 (And.intro hb1 (And.intro (own_rd ho1).1 (And.intro (own_rd ho1).2 (gro (below_box w _) hb1)))))
       clear hn1 hb1 ho1)
    | ((with_reducible refine st_mid 40 (.tmp 6) (.tmp 12) w.heap.size 0 _ 32 hl ht (by kernel_rfl) (one_b8 _) ?_ ?_ ?_ ?_ ?_); rfl; rfl; rfl; rfl))
  exact rt_cell w.heap.size 0 _ 32 _ hl (World.rangeAt_setCells_same _ _ _ _ (by rw [hl]; exact ht)) Tryz.underlying40 rfl (by kernel_rfl) rfl rfl rfl ⟨rfl, below_setCells _ (Nat.le_refl _) _ _ _ H2.out⟩
end Go.Proofs.YtpnakfeafekneaaGreatDoor
