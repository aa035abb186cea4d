/- Part 29 of this proof: V1, V2, V3, V4, V5. -/
import Derived.Test.YtpnakfeafekneaaGreatDoorG28
set_option linter.unusedSimpArgs false
set_option linter.unusedVariables false
namespace Go.Proofs.YtpnakfeafekneaaGreatDoor
open Go.RowKit
theorem stay_set [Inhabited LoT] {w : World} {g : Nat} {t : TypeId} {cs : List Value} (h : Blk w g t cs) (ht : ¬ PureT t) (i : Nat) (u : Value) : Stay PureT w (w.setCell ⟨g, i, none⟩ u) :=
  Stay.pure_of_kept (S := (· = g)) ((Kept.refl _ _).set1 i u) fun k hk => by subst hk; exact ⟨t, _, _, h, ht⟩
theorem stay_sets [Inhabited LoT] {w : World} {g : Nat} {t : TypeId} {cs : List Value} (h : Blk w g t cs) (ht : ¬ PureT t) (o : Nat) (vs : List Value) : Stay PureT w (w.setCells g o vs) :=
  Stay.pure_of_kept (S := (· = g)) ((Kept.refl _ _).setN o vs) fun k hk => by subst hk; exact ⟨t, _, _, h, ht⟩
theorem bclone_sl [Inhabited LoT] (A : Option Addr) (c : Nat) (l : List UInt8) (w : World) (h : Rd w A (l.map b8)) (hl : l.length < 1099511627776) :
    Calls Tryz.prog 113 #[.slice A l.length c] w fun e w' => NewSl 5 w l.length (l.map b8) e w' :=
  (bclone A l.length c (l.map b8) w (by simp) h (one_b8 _) (by omega)).mono fun _ _ h => h.sl
structure Tw (w : World) (x : List Value) (w' : World) : Prop where
  a : Blk w' w.heap.size 36 x
  r : Blk w' (w.heap.size + 1) 36 [.int .u8 0, .slice none 0 0, .slice none 0 0]
  bl : Below w.heap.size w w'
theorem Tw.new (w : World) (x : List Value) : Tw w x ((w.alloc (.cells x.toArray 36)).alloc (.cells #[.int .u8 0, .slice none 0 0, .slice none 0 0] 36)) := by
  have h := Blk.new (w.alloc (.cells x.toArray 36)) 36 [.int .u8 0, .slice none 0 0, .slice none 0 0]
  rw [show (w.alloc (.cells x.toArray 36)).heap.size = w.heap.size + 1 by simp] at h
  exact ⟨(Blk.new w _ _).alloc _, h, gro (below_box _ _) (below_box _ _)⟩
theorem Tw.grown {w w1 w2 : World} {x : List Value} (h : Tw w x w1) (hb : Below w1.heap.size w1 w2) : Tw w x w2 := ⟨h.a.grown hb, h.r.grown hb, gro h.bl hb⟩
theorem Tw.set {w w1 : World} {x : List Value} (h : Tw w x w1) (i : Nat) (u : Value) : Tw w (x.set i u) (w1.setCell ⟨w.heap.size, i, none⟩ u) :=
  ⟨h.a.set_ i u, h.r.far (p := ⟨w.heap.size, i, none⟩) (by simp) u, h.bl.setCell (Nat.le_refl _) _⟩
set_option maxHeartbeats 1000000 in
set_option maxRecDepth 100000 in
theorem stwin_any [Inhabited LoT] (x : List Value) (e : Ent) (w : World) (h : EntAt w x e) (hk : e.key.length < 1048576) (hv : e.val.length < 1048576) (hlo : Lo ≤ w.heap.size) :
    Calls Tryz.prog 71 #[.agg x.toArray] w fun ee w' => ∃ y, ee = .returned (.agg y.toArray) ∧ Below w.heap.size w w' ∧ EntTy w' y e := by
  obtain ⟨A1, c1, A2, c2, rfl, h1, h2, h3, h4⟩ := h
  have HA := hid (And.intro h1 h2)
  have HLO := hid hlo
  clear h1 h2 hlo
  have HW := hid (Tw.new w [b8 e.kind, .slice A1 e.key.length c1, .slice A2 e.val.length c2])
  go_enter Tryz.func71, Tryz.ntmps71
  go_upto_region 1 with fail
  refine wp_world (fun w' => Tw w [b8 e.kind, .slice A1 e.key.length c1, .slice A2 e.val.length c2] w') HW.out ?_
  rintro w1 ht1
  have d1 : w1.cell? ⟨w.heap.size, 1, none⟩ = some (.slice A1 e.key.length c1) := by rw [ht1.a.cell]; rfl
  have HT := hid ht1
  clear ht1 HW
  go_upto_region 2 with (
    (go_at_call 113
     refine (bclone_sl A1 c1 e.key w1 (HA.out.1.grown HT.out.bl) (by omega)).mono ?_
     rintro ee w2 ⟨A3, c3, rfl, hb2, ho2, hc2, hn2, hy2⟩
     have ht2 := HT.out.grown hb2
     have d2 : w2.cell? ⟨w.heap.size, 1, none⟩ = some (.slice A1 e.key.length c1) := by rw [ht2.a.cell]; rfl
     have f2 := ht2.a.frozen 1
     have HV := hid (And.intro ht2 (And.intro ho2 (And.intro hc2 (And.intro hb2 (TyB.up hy2 hn2 (Nat.le_trans HLO.out HT.out.bl.size)))))); clear ht2 hb2 ho2 hc2 hn2 hy2 d1))
  clear d2 f2
  have hst2 := stay_set HV.out.1.a (by decide) 1 (.slice A3 e.key.length c3)
  refine wp_world (fun w' => Tw w [b8 e.kind, .slice A3 e.key.length c3, .slice A2 e.val.length c2] w' ∧ Rd w' A3 (e.key.map b8) ∧ TyB w' 5 A3) ⟨HV.out.1.set 1 _, hst2.rdb HV.out.2.1 HV.out.2.2.2.2 (by decide), hst2.tyb HV.out.2.2.2.2 (by decide)⟩ ?_
  rintro w3 ⟨ht3, hr3, hy3⟩
  have d3 : w3.cell? ⟨w.heap.size, 2, none⟩ = some (.slice A2 e.val.length c2) := by rw [ht3.a.cell]; rfl
  have HU := hid (And.intro ht3 (And.intro hr3 hy3))
  clear ht3 hr3 hy3 hst2 HT
  go_upto_region 3 with (
    (go_at_call 113
     refine (bclone_sl A2 c2 e.val w3 (HA.out.2.grown HU.out.1.bl) (by omega)).mono ?_
     rintro ee w4 ⟨A4, c4, rfl, hb4, ho4, hc4, hn4, hy4⟩
     have ht4 := HU.out.1.grown hb4
     have d4 : w4.cell? ⟨w.heap.size, 2, none⟩ = some (.slice A2 e.val.length c2) := by rw [ht4.a.cell]; rfl
     have f4 := ht4.a.frozen 2
     have HY := hid (And.intro ht4 (And.intro ho4 (And.intro hc4 (And.intro hb4 (TyB.up hy4 hn4 (Nat.le_trans HLO.out HU.out.1.bl.size)))))); clear ht4 hb4 ho4 hc4 hn4 hy4 d3))
  clear d4 f4
  have hst4 := stay_set HY.out.1.a (by decide) 2 (.slice A4 e.val.length c4)
  refine wp_world (fun w' => Tw w [b8 e.kind, .slice A3 e.key.length c3, .slice A4 e.val.length c4] w' ∧ (Rd w' A3 (e.key.map b8) ∧ TyB w' 5 A3) ∧ Rd w' A4 (e.val.map b8) ∧ TyB w' 5 A4) ⟨HY.out.1.set 2 _, ⟨hst4.rdb (HU.out.2.1.grown HY.out.2.2.2.1) (HU.out.2.2.grown HY.out.2.2.2.1) (by decide), hst4.tyb (HU.out.2.2.grown HY.out.2.2.2.1) (by decide)⟩, hst4.rdb HY.out.2.1 HY.out.2.2.2.2 (by decide), hst4.tyb HY.out.2.2.2.2 (by decide)⟩ ?_
  rintro w5 ⟨ht5, ⟨hr5, hy5⟩, hs5, hz5⟩
  have hl5 := ht5.a.whole
  have hh5 := ht5.r.there 0 3 (Nat.le_refl _)
  have hst5 := stay_sets ht5.r (by decide) 0 [b8 e.kind, .slice A3 e.key.length c3, .slice A4 e.val.length c4]
  have hfin : EntTy (w5.setCells (w.heap.size + 1) 0 [b8 e.kind, .slice A3 e.key.length c3, .slice A4 e.val.length c4]) [b8 e.kind, .slice A3 e.key.length c3, .slice A4 e.val.length c4] e :=
    ⟨A3, c3, A4, c4, rfl, hst5.rdb hr5 hy5 (by decide), hst5.rdb hs5 hz5 (by decide), HV.out.2.2.1, HY.out.2.2.1, hst5.tyb hy5 (by decide), hst5.tyb hz5 (by decide)⟩
  have HOC := hid hfin.oc
  have hbl := ht5.bl
  have HF := hid (And.intro hfin (below_setCells (w.heap.size + 1) (by omega : w.heap.size ≤ w.heap.size + 1) [b8 e.kind, .slice A3 e.key.length c3, .slice A4 e.val.length c4] 0 _ hbl))
  clear ht5 hr5 hy5 hs5 hz5 hst5 hfin hbl HU HY HV
  go_wp2_with (first
    | ((with_reducible refine ld_mid 36 (.tmp 1) w.heap.size 0 _ 3 _ rfl hl5 Tryz.underlying36 rfl (by kernel_rfl) ?_ ?_ ?_ ?_); rfl; rfl; rfl)
    | ((with_reducible refine st_mid 36 (.tmp 2) (.tmp 11) (w.heap.size + 1) 0 [b8 e.kind, .slice A3 e.key.length c3, .slice A4 e.val.length c4] 3 rfl hh5 (by kernel_rfl) HOC.out ?_ ?_ ?_ ?_ ?_); rfl; rfl; rfl; rfl))
  exact rt_cell (w.heap.size + 1) 0 _ 3 _ rfl (World.rangeAt_setCells_same _ _ _ _ hh5) Tryz.underlying36 rfl (by kernel_rfl) rfl rfl rfl ⟨_, rfl, HF.out.2, HF.out.1⟩
end Go.Proofs.YtpnakfeafekneaaGreatDoor

namespace Go.Proofs.YtpnakfeafekneaaGreatDoor
open Go.RowKit
theorem swidth_any (b tb n : Nat) (ds : List (List UInt8)) (w : World) (hb : w.cell? ⟨b, 0, none⟩ = some (ptr tb)) (ht : TreeAt w tb n ds) :
    Calls Tryz.prog 46 #[ptr b] w fun e w' => e = .returned (.int .i64 n) ∧ w = w' := by
  have HT := hid ht
  clear ht
  go_enter Tryz.func46, Tryz.ntmps46
  go_wp2_with (go_at_call 78; refine (twidth_any tb n ds _ HT.out).mono ?_; rintro e w2 ⟨rfl, rfl⟩)
  go_ret
  exact ⟨rfl, rfl⟩
set_option maxHeartbeats 1000000 in
set_option maxRecDepth 100000 in
theorem sleaf_ok (b tb n : Nat) (h1 : 1 ≤ n) (h2 : n ≤ 32) (ds : List (List UInt8)) (x : List Value) (e : Ent) (w : World) (hw : Words w) (hb : w.cell? ⟨b, 0, none⟩ = some (ptr tb)) (ht : TreeAt w tb n ds) (hx : EntAt w x e) (hok : En.check e = 0) :
    Calls Tryz.prog 72 #[ptr b, .agg x.toArray] w fun ee w' => ee = .returned (dg (Dg.leaf n (En.bytes e))) ∧ Below w.heap.size w w' := by
  obtain ⟨A1, c1, A2, c2, rfl, r1, r2, h3, h4⟩ := hx
  have hlen := En.bytes_len e hok
  have hdl := Dg.sum_length n (Dg.leafIn (En.bytes e)) h2
  have HD := hid (show ((Dg.leaf n (En.bytes e)).map b8).length = 32 by unfold Dg.leaf; simp [hdl])
  have HA := hid (And.intro hw (And.intro hb (And.intro ht (And.intro r1 (And.intro r2 hok)))))
  clear hw hb ht r1 r2 hok hdl
  have hbx := Blk.new w 36 [b8 e.kind, .slice A1 e.key.length c1, .slice A2 e.val.length c2]
  have hbr := Blk.new (w.alloc (.cells #[b8 e.kind, .slice A1 e.key.length c1, .slice A2 e.val.length c2] 36)) 40 (List.replicate 32 (b8 0))
  rw [show (w.alloc (.cells #[b8 e.kind, .slice A1 e.key.length c1, .slice A2 e.val.length c2] 36)).heap.size = w.heap.size + 1 by simp] at hbr
  have HB0 := hid (And.intro (hbx.alloc (.cells (List.replicate 32 (b8 0)).toArray 40)) (And.intro hbr (gro (below_box w (.cells #[b8 e.kind, .slice A1 e.key.length c1, .slice A2 e.val.length c2] 36)) (below_box _ (.cells (List.replicate 32 (b8 0)).toArray 40)))))
  clear hbx hbr
  go_enter Tryz.func72, Tryz.ntmps72
  go_upto_region 1 with fail
  refine wp_world (fun w' => Blk w' w.heap.size 36 [b8 e.kind, .slice A1 e.key.length c1, .slice A2 e.val.length c2] ∧ Blk w' (w.heap.size + 1) 40 (List.replicate 32 (b8 0)) ∧ Below w.heap.size w w') HB0.out ?_
  rintro w1 ⟨hb1, hb2, hbl⟩
  have hl1 := hb1.whole
  have HB := hid (And.intro hb2 hbl)
  clear hb1 hb2 hbl HB0
  go_upto_region 3 with (first
    | ((with_reducible refine ld_mid 36 (.tmp 3) w.heap.size 0 _ 3 _ rfl hl1 Tryz.underlying36 rfl (by kernel_rfl) ?_ ?_ ?_ ?_); rfl; rfl; rfl)
    | (go_at_call 114
       refine (encode_ok e A1 A2 c1 c2 w1 (HA.out.2.2.2.1.grown HB.out.2) (HA.out.2.2.2.2.1.grown HB.out.2) HA.out.2.2.2.2.2).mono ?_
       rintro ee w2 ⟨A3, c3, rfl, hb3, hr3, hc3⟩
       have hbw := gro HB.out.2 hb3
       have HV := hid (And.intro hb3 (And.intro hr3 hbw)); clear hb3 hr3 hc3 hbw)
    | (go_at_call 46
       refine (swidth_any b tb n ds w2 (by rw [HV.out.2.2.cell (p := ⟨b, 0, none⟩) (World.block_lt_of_cell? w _ HA.out.2.1)]; exact HA.out.2.1) (HA.out.2.2.1.grown HV.out.2.2)).mono ?_
       rintro ee w3 ⟨rfl, rfl⟩)
    | (go_at_call 115
       refine (leaf_any n h1 h2 (En.bytes e) A3 c3 w2 HV.out.2.1 (HA.out.1.below HV.out.2.2) (by omega)).mono ?_
       rintro ee w4 ⟨rfl, hb4⟩
       have HY := hid hb4; clear hb4)
    | ((with_reducible refine st_new 40 (.tmp 7) (.tmp 19) _ _ ((Dg.leaf n (En.bytes e)).map b8) 32 HD.out ?_ (by kernel_rfl) (one_b8 _) ?_ ?_ ?_ ?_ ?_); rfl; rfl; rfl; rfl; rfl))
  have hb14 := gro HV.out.1 HY.out
  have hb15 := gro hb14 (below_box w4 (.cells ((Dg.leaf n (En.bytes e)).map b8).toArray 40))
  refine wp_world (fun w' => w'.rangeAt w4.heap.size 0 ((Dg.leaf n (En.bytes e)).map b8) ∧ w'.there (w.heap.size + 1) 0 32 ∧ Below w.heap.size w w') ⟨(Blk.new w4 _ _).whole, (HB.out.1.grown hb15).there 0 32 (by simp), gro HB.out.2 hb15⟩ ?_
  rintro w5 ⟨hr5, ht5, hb5⟩
  have HE := hid hb5
  clear hb5 hb14 hb15
  go_wp2_with (first
    | ((with_reducible refine ld_mid 40 (.tmp 7) w4.heap.size 0 _ 32 _ HD.out hr5 Tryz.underlying40 rfl (by kernel_rfl) ?_ ?_ ?_ ?_); rfl; rfl; rfl)
    | ((with_reducible refine st_mid 40 (.tmp 4) (.tmp 21) (w.heap.size + 1) 0 ((Dg.leaf n (En.bytes e)).map b8) 32 HD.out ht5 (by kernel_rfl) (one_b8 _) ?_ ?_ ?_ ?_ ?_); rfl; rfl; rfl; rfl))
  exact rt_cell (w.heap.size + 1) 0 _ 32 _ HD.out (World.rangeAt_setCells_same _ _ _ _ (by rw [HD.out]; exact ht5)) Tryz.underlying40 rfl (by kernel_rfl) rfl rfl rfl ⟨rfl, below_setCells _ (by omega) _ _ _ HE.out⟩
end Go.Proofs.YtpnakfeafekneaaGreatDoor

namespace Go.Proofs.YtpnakfeafekneaaGreatDoor
open Go.RowKit
def RtOk (r : Rt) : Prop := r.log.length = 32 ∧ r.map.length = 32 ∧ r.size < 18446744073709551616
theorem rt_len {r : Rt} (h : RtOk r) : (rtCells r).length = 65 := by unfold rtCells; simp [h.1, h.2.1]
theorem rt_oc (r : Rt) : ∀ v ∈ rtCells r, v.oneCell' = true := by
  unfold rtCells
  intro v hv
  rcases List.mem_cons.1 hv with rfl | hv
  · rfl
  · rcases List.mem_append.1 hv with hv | hv
    · exact one_b8 _ v hv
    · exact one_b8 _ v hv
def rtRow (rs : List Rt) : List (List Value) := rs.map rtCells
theorem rtRow_len {rs : List Rt} (h : ∀ r ∈ rs, RtOk r) : ∀ x ∈ rtRow rs, x.length = 65 := by
  intro x hx
  obtain ⟨r, hr, rfl⟩ := List.mem_map.1 hx
  exact rt_len (h r hr)
set_option maxHeartbeats 1000000 in
set_option maxRecDepth 100000 in
theorem sroot_any (b : Nat) (A : Option Addr) (c : Nat) (rs : List Rt) (r : Rt) (w : World) (hb : w.cell? ⟨b, 3, none⟩ = some (.slice A rs.length c)) (hA : Rd w A (rtRow rs).flatten) (hk : ∀ r ∈ rs, RtOk r) (hl : rs.getLast? = some r) (hn : rs.length < 1048576) :
    Calls Tryz.prog 29 #[ptr b] w fun e w' => e = .returned (.agg (rtCells r).toArray) ∧ Below w.heap.size w w' := by
  have hn0 : 0 < rs.length := List.length_pos_iff.2 (fun e => by rw [e] at hl; simp at hl)
  have hr : rs[rs.length - 1]'(by omega) = r := by rw [List.getLast?_eq_getElem?, List.getElem?_eq_getElem (by omega)] at hl; exact Option.some.inj hl
  have hmem : r ∈ rs := by rw [← hr]; exact List.getElem_mem _
  have HLR := hid (rt_len (hk r hmem))
  obtain ⟨g, o, rfl, hrg⟩ := hA (by
    intro e
    have := flatten_len 65 _ (rtRow_len hk)
    rw [e] at this
    simp [rtRow] at this; omega)
  obtain ⟨k, hkk⟩ : ∃ k, k = rs.length - 1 := ⟨_, rfl⟩
  have hrl : (rtRow rs).length = rs.length := by simp [rtRow]
  have hp := range_part hrg (rtRow_len hk) k (by omega)
  have hpe : (rtRow rs)[k]'(by omega) = rtCells r := by simp only [rtRow, List.getElem_map]; congr 1; rw [← hr]; congr 1
  rw [hpe] at hp
  have h0 : ((rs.length : Int) == 0) = false := by rw [beq_eq_false_iff_ne]; omega
  have hs1 : IntKind.i64.wrap ((rs.length : Int) - 1) = (k : Int) := by rw [IntKind.wrap_i64]; omega
  have hs2 : (rs.length : Int) - 1 = (k : Int) := by omega
  have hki : (0 : Int) ≤ (k : Int) ∧ (k : Int) < (rs.length : Int) := by omega
  have HP := hid (And.intro hp hb)
  have HS := hid (And.intro hs1 hs2)
  clear hp hb hrg hA hl hr hmem hrl hpe hkk hk hn0 hs1 hs2
  have hrb := Blk.new w 42 (.int .u64 0 :: List.replicate 64 (b8 0))
  have HB0 := hid (And.intro hrb (below_box w (.cells (.int .u64 0 :: List.replicate 64 (b8 0)).toArray 42)))
  clear hrb
  go_enter Tryz.func29, Tryz.ntmps29
  go_upto_region 1 with fail
  refine wp_world (fun w' => Blk w' w.heap.size 42 (.int .u64 0 :: List.replicate 64 (b8 0)) ∧ Below w.heap.size w w') HB0.out ?_
  rintro w1 ⟨hb1, hbl⟩
  have c3 : w1.cell? ⟨b, 3, none⟩ = some (.slice (some ⟨g, o, none⟩) rs.length c) := by rw [hbl.cell (p := ⟨b, 3, none⟩) (World.block_lt_of_cell? w _ HP.out.2)]; exact HP.out.2
  have hrw := range_below HP.out.1 hbl (range_lt HP.out.1 (by rw [HLR.out]; omega))
  have HB := hid (And.intro hb1 (And.intro hbl (And.intro c3 hrw)))
  clear hb1 hbl hrw HB0
  go_upto_region 3 with fail
  have q3 := Fut.cell HB.out.2.2.1
  have hs1 := HS.out.1
  have hs2 := HS.out.2
  clear c3
  refine wp_region_fut_tail 12 (by kernel_rfl) (by kernel_rfl) ?_
  dsimp only [List.take_succ_cons, List.take_zero]
  repeat (first
    | (go_big_quiet_want; (with_reducible refine quiet_ld 42 (.tmp 24) g (o + k * 65) _ 65 _ HLR.out (range_fut HB.out.2.2.2) Tryz.underlying42 rfl (by kernel_rfl) ?_ ?_ ?_); rfl; rfl; simp only [Act.put, List.setIfInBounds_toArray, List.set_cons_zero, List.set_cons_succ]; go_big_quiet_on)
    | go_big_quiet_step (fail))
  refine wpQuiet_nil ?_
  rintro _ ⟨s, rfl⟩
  have ht := (HB.out.1.grown s.below).there 0 65 (by simp)
  have hbs := gro HB.out.2.1 s.below
  have HE := hid hbs
  clear hbs hs1 hs2 q3
  simp only [List.drop_succ_cons, List.drop_zero]
  go_wp2_with (
    ((with_reducible refine st_mid 42 (.tmp 2) (.tmp 25) w.heap.size 0 (rtCells r) 65 HLR.out ht (by kernel_rfl) (rt_oc r) ?_ ?_ ?_ ?_ ?_); rfl; rfl; rfl; rfl))
  exact rt_cell w.heap.size 0 _ 65 _ HLR.out (World.rangeAt_setCells_same _ _ _ _ (by rw [HLR.out]; exact ht)) Tryz.underlying42 rfl (by kernel_rfl) rfl rfl rfl ⟨rfl, below_setCells _ (Nat.le_refl _) _ _ _ HE.out⟩
theorem run_field_part {P : Program} {T : TypeId} {fields : Array Field} (hT : P.underlying T = some (.struct fields)) (i : Nat) (f : Field) (hf : fields[i]? = some f) {dd : TypeDesc} (he : P.underlying f.type = some dd) (hd : dd.isRow = false) (cs : Array Value) (v : Value) (hv : cs[f.offset]? = some v) (w : World) : (Instr.field T (.agg cs) i).run P w = .ok v w := by
  have hp := part_one he hd cs f.offset v hv w
  simp [Instr.field, run_underlying hT, hf, asAgg, hp]
theorem size_field (r : Rt) (w : World) : (Instr.field 42 (.agg (rtCells r).toArray) 0).run Tryz.prog w = .ok (.int .u64 r.size) w :=
  run_field_part Tryz.underlying42 0 _ rfl Tryz.underlying38 rfl _ _ rfl w
set_option maxRecDepth 100000 in
theorem ssize_any (b : Nat) (A : Option Addr) (c : Nat) (rs : List Rt) (r : Rt) (w : World) (hb : w.cell? ⟨b, 3, none⟩ = some (.slice A rs.length c)) (hA : Rd w A (rtRow rs).flatten) (hk : ∀ r ∈ rs, RtOk r) (hl : rs.getLast? = some r) (hn : rs.length < 1048576) :
    Calls Tryz.prog 47 #[ptr b] w fun e w' => e = .returned (.int .u64 r.size) ∧ Below w.heap.size w w' := by
  have HR := hid (sroot_any b A c rs r w hb hA hk hl hn)
  clear hA hk hl hb
  have hsf := size_field r
  go_enter Tryz.func47, Tryz.ntmps47
  go_wp2_with (go_at_call 29; refine HR.out.mono ?_; rintro e w2 ⟨rfl, hb2⟩; have HV := hid hb2; clear hb2)
  go_ret
  exact ⟨rfl, HV.out⟩
end Go.Proofs.YtpnakfeafekneaaGreatDoor

namespace Go.Proofs.YtpnakfeafekneaaGreatDoor
open Go.RowKit
theorem info_rt : (Tryz.prog.info? 42).map (fun i => (i.zero, i.size, i.bytes)) = some (some (.agg (.int .u64 0 :: List.replicate 64 (.int .u8 0)).toArray), 65, 72) := info_root
theorem rt_fill (parts : List (Nat × Value)) : Tryz.prog.built 42 parts = Instr.fill ((#[(0, 1), (1, 32), (33, 32)] : Array (Nat × Nat))[·]?) ([Value.int .u64 0] ++ (List.replicate 32 (b8 0) ++ List.replicate 32 (b8 0))).toArray parts := by kernel_rfl
theorem rt_built [Inhabited LoT] (s : Nat) (l m : List UInt8) (hl : l.length = 32) (hm : m.length = 32) : Tryz.prog.built 42 [(0, .int .u64 s), (1, dg l), (2, dg m)] = some (rtCells ⟨s, l, m⟩).toArray := by
  have hL : (l.map b8).length = 32 := by simp [hl]
  have hM : (m.map b8).length = 32 := by simp [hm]
  rw [rt_fill, fill_step _ _ 0 _ _ 0 1 rfl [.int .u64 s] rfl rfl (by simp), splice_head [Value.int .u64 s] [Value.int .u64 0] _ rfl,
    fill_step _ _ 1 _ _ 1 32 rfl (l.map b8) rfl hL (by simp), splice_tail _ _ _ _ (by simp),
    show splice (List.replicate 32 (b8 0) ++ List.replicate 32 (b8 0)) (1 - [Value.int .u64 s].length) (l.map b8) = l.map b8 ++ List.replicate 32 (b8 0) from splice_head _ _ _ (by simp [hl]),
    fill_step _ _ 2 _ _ 33 32 rfl (m.map b8) rfl hM (by simp [hl]), splice_tail _ _ _ _ (by simp),
    show splice (l.map b8 ++ List.replicate 32 (b8 0)) (33 - [Value.int .u64 s].length) (m.map b8) = l.map b8 ++ m.map b8 from by
      rw [splice_tail _ _ _ _ (by simp [hl])]
      congr 1
      simp only [List.length_map, hl, List.length_cons, List.length_nil]
      exact splice_whole _ _ (by simp [hm])]
  rfl
theorem log_len (n : Nat) (h2 : n ≤ 32) (ds : List (List UInt8)) (hf : Fits n ds) : (Mt.log n ds).length = 32 := by
  unfold Mt.log
  split
  · exact Dg.sum_length _ _ h2
  · cases ds with
    | nil => exact Dg.sum_length _ _ h2
    | cons d r => exact (hf d (by simp)).1
theorem TreeAt.fits {w : World} {b n : Nat} {ds : List (List UInt8)} (h : TreeAt w b n ds) : Fits n ds := by
  obtain ⟨A, c, bs, ts, h1, h2, h3, h4, h5, h6, h7⟩ := h; exact h7
theorem rtRow_snoc (rs : List Rt) (r : Rt) : (rtRow (rs ++ [r])).flatten = (rtRow rs).flatten ++ rtCells r := by simp [rtRow]
theorem step_ap_own {P : Program} {ops : Array Oper} {o : Oper} {a : Act} {w : World} {K : Act → World → Prop} {Q : Exit → Act → World → Prop} {E : Prop} (s x : Operand) (t : TypeId) {base : Nat} {e : TypeId} {z : Value} {size bytes : Nat}
    (ht : P.underlying t = some (.slice e)) (hinfo : (P.info? e).map (fun i => (i.zero, i.size, i.bytes)) = some (some z, size, bytes)) (hzs : z.cells.size = size) (hsz : 0 < size)
    {v : Value} {n : Nat} {xs : List Value} (hown : w.ownsRow base e size v n xs) {A : Option Addr} (m c : Nat) {news : List Value} (hl : news.length = m * size) (hr : Rd w A news) (h1 : ∀ u ∈ news, u.oneCell' = true)
    (h63 : n + m ≤ maxLen) (hbytes : (n + m) * bytes ≤ 140737488355328) (hbase : base ≤ w.heap.size)
    (hgd : o.guard = none) (ho : o.op = .call { callee := .builtin .append, args := #[s, x], argTypes := #[t, t] }) (hs : a.eval s = v) (hx : a.eval x = .slice A m c)
    (h : ∀ v' w', w'.ownsRow base e size v' (n + m) (xs ++ news) → w.grownBy w' v.ownBlock → (v'.ownBlock = v.ownBlock ∨ v'.ownBlock = some w.heap.size) → K (a.put o.dst v') w') :
    if Region.wanted o (yielded ops a.tmps) = true then Oper.wp P o a w K Q else E := by
  have hw : Region.wanted o (yielded ops a.tmps) = true := by simp [Region.wanted, hgd]
  rw [if_pos hw]
  obtain ⟨v', w', hrn, h2, h3, h4, h5⟩ := run_app (P := P) (ty := o.type) ht hinfo hzs hsz hown c hl hr h1 h63 hbytes hbase
  unfold Oper.wp execOp
  simp only [ho, resolve, invoke, builtin, Sem.run_bind, Sem.run_pure, Result.andThen_ok, List.map_toArray, List.map_cons, List.map_nil, hs, hx, hrn]
  exact h v' w' h2 h3 h4
theorem rt_build_run [Inhabited LoT] (s : Nat) (l m : List UInt8) (hl : l.length = 32) (hm : m.length = 32) (w : World) : (Instr.build 42 #[(0, .int .u64 s), (1, dg l), (2, dg m)]).run Tryz.prog w = .ok (.agg (rtCells ⟨s, l, m⟩).toArray) w :=
  run_build (P := Tryz.prog) w _ #[(0, .int .u64 s), (1, dg l), (2, dg m)] _ (rt_built s l m hl hm)
theorem bs_run {P : Program} (t e : TypeId) (x : List Value) (s : Nat) (hs : 0 < s) (hl : x.length = s) (hsmall : s ≤ 2 ^ 24) (hu : P.underlying t = some (.slice e)) (hinfo : (P.info? e).map (fun i => (i.size, i.zero.isSome)) = some (s, true)) (w : World) :
    (Instr.buildSlice t 1 #[(0, .agg x.toArray)]).run P w = .ok (.slice (some ⟨w.heap.size, 0, none⟩) 1 1) (w.alloc (.cells x.toArray e)) := by
  cases hie : P.info? e with
  | none => simp [hie] at hinfo
  | some ie =>
    simp only [hie, Option.map_some, Option.some.injEq, Prod.mk.injEq] at hinfo
    obtain ⟨hsz, hz⟩ := hinfo
    obtain ⟨z, hzz⟩ := Option.isSome_iff_exists.1 hz
    obtain ⟨r, hr, hrs, hk⟩ := Great.fill_dense hs [Value.agg x.toArray] 0 ((Array.range (1 * s)).map (z.cells[· % z.cells.size]!)) (fun v hv => by
      rw [List.mem_singleton] at hv; subst hv
      simp [Value.cells, hl]) (by simp)
    have e1 : r = x.toArray := by
      apply Array.ext_getElem?
      intro k
      rw [hk]
      simp only [Nat.zero_mul, Nat.zero_le, true_and, List.length_cons, List.length_nil, Nat.zero_add, Nat.sub_zero, Nat.one_mul]
      by_cases hk' : k < s
      · rw [if_pos hk', List.getElem?_toArray, Nat.div_eq_of_lt hk', Nat.mod_eq_of_lt hk']
        simp [Value.cells]
      · rw [if_neg hk', Array.getElem?_eq_none (by simp; omega), Array.getElem?_eq_none (by simp; omega)]
    subst e1
    refine run_buildSlice w t e 1 _ _ ie z hu hie hzz (by rw [hsz]; omega) (by rw [hsz]; omega) ?_
    rw [hsz]
    simpa using hr
@[go_sem] def ldPast : Op := .load 24 (.tmp 21)
attribute [-go_sem] Instr.build Instr.buildSlice in
set_option maxHeartbeats 2000000 in
set_option maxRecDepth 100000 in
theorem sbounded_ok [Inhabited LoT] (B b tb mb n : Nat) (h1 : 1 ≤ n) (h2 : n ≤ 32) (ds : List (List UInt8)) (m : List Pr) (eV pV : Value) (rs : List Rt) (w : World) (hb : Blk w b 100 [ptr tb, ptr mb, eV, pV]) (ht : TreeAt w tb n ds) (hm : MapAt w n mb m) (hown : w.ownsRow B 42 65 pV rs.length (rtRow rs).flatten) (hB : B ≤ w.heap.size) (hw : Words w) (hds : ds.length < 1048576) (hrs : rs.length < 1048576) :
    Calls Tryz.prog 67 #[ptr b] w fun e w' => e = .returned (ptr b) ∧ Kept (fun k => k = b ∨ pV.ownBlock = some k) w w' ∧ ∃ pV', Blk w' b 100 [ptr tb, ptr mb, eV, pV'] ∧ w'.ownsRow B 42 65 pV' (rs.length + 1) (rtRow (rs ++ [⟨ds.length, Mt.log n ds, Hm.root n m⟩])).flatten ∧ (pV'.ownBlock = pV.ownBlock ∨ ∀ k, pV'.ownBlock = some k → w.heap.size ≤ k) := by
  have hll := log_len n h2 ds ht.fits
  have hml := root_log_len n h2 m
  have HLL := hid (show ((Mt.log n ds).map b8).length = 32 by simp [hll])
  have HBT := hid (rt_built ds.length (Mt.log n ds) (Hm.root n m) hll hml)
  have HBR := hid (rt_build_run ds.length (Mt.log n ds) (Hm.root n m) hll hml)
  have HRT := hid (show (rtCells ⟨ds.length, Mt.log n ds, Hm.root n m⟩).length = 65 ∧ ∀ y ∈ [rtCells ⟨ds.length, Mt.log n ds, Hm.root n m⟩], y.length = 65 from ⟨rt_len ⟨hll, hml, by show ds.length < _; omega⟩, fun y hy => by rw [List.mem_singleton] at hy; subst hy; exact rt_len ⟨hll, hml, by show ds.length < _; omega⟩⟩)
  have q0 := Fut.cell (show w.cell? ⟨b, 0, none⟩ = some (ptr tb) from by rw [hb.cell]; rfl)
  have hsz : ∀ (w1 : World), Below w.heap.size w w1 → ∀ s : Fut w1, Calls Tryz.prog 106 #[ptr tb] s.v fun e w'' => e = .returned (.int .u64 ds.length) ∧ ∃ s' : Fut w1, w'' = s'.v := fun w1 hb1 s => Calls.fut_same (tsize_any tb n ds s.v (ht.grown (gro hb1 s.below)))
  have hrt : ∀ (w1 : World), Below w.heap.size w w1 → ∀ s : Fut w1, Calls Tryz.prog 105 #[ptr tb, .int .u64 ds.length] s.v fun e w'' => e = .returned (.tuple #[dg (Mt.log n ds), .int .i64 0]) ∧ ∃ s' : Fut w1, w'' = s'.v := fun w1 hb1 s => Calls.fut_of (troot_any tb n ds s.v (ht.grown (gro hb1 s.below)) h1 h2 (by omega) (hw.below (gro hb1 s.below)))
  have hmr : ∀ (w1 : World), Below w.heap.size w w1 → ∀ s : Fut w1, Calls Tryz.prog 107 #[ptr mb] s.v fun e w'' => e = .returned (dg (Hm.root n m)) ∧ ∃ s' : Fut w1, w'' = s'.v := fun w1 hb1 s => Calls.fut_of (hroot_any mb n h1 h2 m s.v (hw.below (gro hb1 s.below)) (hm.grown (gro hb1 s.below)))
  have HC := hid (And.intro hsz (And.intro hrt hmr))
  have HA := hid (And.intro hb (And.intro ht (And.intro hm (And.intro hown (And.intro hw hB)))))
  clear hsz hrt hmr hb ht hm hown hw hll hml q0
  go_enter Tryz.func67, Tryz.ntmps67
  go_upto_region 1 with fail
  refine wp_region_fresh 15 13 14 11 _ _ _ 40 (List.replicate 32 (b8 0)) ((Mt.log n ds).map b8) (.agg (List.replicate 32 (b8 0)).toArray) 3 16
    { tmps := #[ptr b, undef, .pointer none, undef, undef, .tuple #[dg (Mt.log n ds), .int .i64 0], ptr b, ptr b, ptr b, ptr tb, ptr b, ptr b, ptr b, ptr tb, .int .u64 ds.length, .tuple #[dg (Mt.log n ds), .int .i64 0], dg (Mt.log n ds), .int .i64 0, undef, undef, undef, undef, undef, undef, undef, undef, undef, undef, undef, undef, undef, undef, undef, undef, undef, undef, undef, undef, undef, undef], defers := [] }
    (by kernel_rfl) rfl rfl rfl rfl rfl rfl rfl rfl (by kernel_rfl) rfl (by rw [HLL.out]; kernel_rfl) (by rw [HLL.out]; simp) (one_b8 _) rfl rfl (by decide) (by decide) (by decide) (by decide) (by kernel_rfl) (by kernel_rfl) (fun g => by kernel_rfl) (by kernel_rfl) rfl (by simp) ?h ?ht
  case h =>
    intro w2 g hb2 hg
    have q0 := Fut.cell (w := w2) (show w2.cell? ⟨b, 0, none⟩ = some (ptr tb) from by rw [(HA.out.1.grown hb2).cell]; rfl)
    have hq := HC.out.1 w2 hb2
    have hq2 := HC.out.2.1 w2 hb2
    have HQ := hid (And.intro hq hq2)
    clear hq hq2
    dsimp only [idle, List.take_succ_cons, List.take_zero, List.drop_succ_cons, List.drop_zero, List.set_cons_zero, List.set_cons_succ]
    repeat (go_big_quiet_step (first | (with_reducible exact HQ.out.1 _) | (with_reducible exact HQ.out.2 _)))
    exact wpQuiet_nil rfl
  case ht =>
    intro g w2 hg hb2 hgb
    have hr3 := hgb.whole
    have HE := hid (And.intro hb2 (And.intro hgb hg))
    clear hb2 hgb hg
    dsimp only [List.drop_succ_cons, List.drop_zero]
    simp only [Act.put, List.setIfInBounds_toArray, List.set_cons_zero, List.set_cons_succ]
    go_upto_region 2 with fail
    have hbw2 := HA.out.1.grown HE.out.1
    have q0 := Fut.cell (w := w2) (show w2.cell? ⟨b, 0, none⟩ = some (ptr tb) from by rw [hbw2.cell]; rfl)
    have q1 := Fut.cell (w := w2) (show w2.cell? ⟨b, 1, none⟩ = some (ptr mb) from by rw [hbw2.cell]; rfl)
    have q3 := Fut.cell (w := w2) (show w2.cell? ⟨b, 3, none⟩ = some pV from by rw [hbw2.cell]; rfl)
    clear q0 q1 q3
    have HS : ∀ w', Below w2.heap.size w2 w' → w'.cell? ⟨b, 0, none⟩ = some (ptr tb) ∧ w'.cell? ⟨b, 1, none⟩ = some (ptr mb) ∧ w'.rangeAt g 0 ((Mt.log n ds).map b8) := fun w' hb => by
      have h := hbw2.grown hb
      exact ⟨by rw [h.cell]; rfl, by rw [h.cell]; rfl, range_grown hr3 hb⟩
    have hd : Below w2.heap.size w2 w2.drew := (Below.refl _ _).drew
    have k3 : w2.cell? ⟨b, 3, none⟩ = some pV := by rw [hbw2.cell]; rfl
    have hts := tsize_any tb n ds w2.drew (HA.out.2.1.grown (gro HE.out.1 hd))
    have hmr := hroot_any mb n h1 h2 m w2.drew (HA.out.2.2.2.2.1.below (gro HE.out.1 hd)) (HA.out.2.2.1.grown (gro HE.out.1 hd))
    have HT := hid (And.intro HS (And.intro hd (And.intro hts (And.intro hmr hbw2))))
    clear HS hd hts hmr hbw2 hr3
    have hu := Tryz.underlying40
    have hi : (Tryz.prog.info? 40).map (·.size) = some ((Mt.log n ds).map b8).length := by rw [HLL.out]; exact size_dg
    have hl := HLL.out
    have hone := one_b8 (Mt.log n ds)
    have hbr : ∀ w, (Instr.build 42 #[(0, .int .u64 ds.length), (1, .agg ((Mt.log n ds).map b8).toArray), (2, dg (Hm.root n m))]).run Tryz.prog w = .ok (.agg (rtCells ⟨ds.length, Mt.log n ds, Hm.root n m⟩).toArray) w := HBR.out
    have hbs := bs_run (P := Tryz.prog) 24 42 (rtCells ⟨ds.length, Mt.log n ds, Hm.root n m⟩) 65 (by decide) HRT.out.1 (by decide) Tryz.underlying24 (by kernel_rfl)
    generalize hG : Instr.buildSlice 24 1 #[(0, .agg (rtCells ⟨ds.length, Mt.log n ds, Hm.root n m⟩).toArray)] = G at hbs
    have HK : ∀ w6 w9 : World, Below w2.heap.size w2 w6 → w6.grownBy w9 pV.ownBlock → (w9.cell? ⟨b, 0, none⟩ = some (ptr tb) ∧ w9.cell? ⟨b, 1, none⟩ = some (ptr mb) ∧ w9.rangeAt g 0 ((Mt.log n ds).map b8)) ∧ (∀ u, (w9.setCell ⟨b, 3, none⟩ u).cell? ⟨b, 0, none⟩ = some (ptr tb) ∧ (w9.setCell ⟨b, 3, none⟩ u).cell? ⟨b, 1, none⟩ = some (ptr mb) ∧ (w9.setCell ⟨b, 3, none⟩ u).rangeAt g 0 ((Mt.log n ds).map b8)) ∧ Blk w9 b 100 [ptr tb, ptr mb, eV, pV] := fun w6 w9 h6 h9 => by
      have hb6 := HT.out.2.2.2.2.grown h6
      have hg6 := HE.out.2.1.grown h6
      have hw6 := own_grown HA.out.2.2.2.1 (gro HE.out.1 h6)
      have hk9 := kept_of_grownBy h9
      have hb9 := hk9.blk hb6 (own_ne hw6 hb6 (by decide))
      have hg9 := hk9.blk hg6 (own_ne hw6 hg6 (by decide))
      have hgb := Blk.ne_type hb9 hg9 (by decide)
      refine ⟨⟨by rw [hb9.cell]; rfl, by rw [hb9.cell]; rfl, hg9.whole⟩, fun u => ?_, hb9⟩
      have hb' := hb9.set_ 3 u
      exact ⟨by rw [hb'.cell]; rfl, by rw [hb'.cell]; rfl, (hg9.far hgb u).whole⟩
    have HKK := hid HK
    clear HK
    have hinfo : (Tryz.prog.info? 42).map (fun i => (i.zero, i.size, i.bytes)) = some (some (.agg (.int .u64 0 :: List.replicate 64 (.int .u8 0)).toArray), 65, 72) := info_rt
    rw [show Op.load 24 (.tmp 21) = ldPast from rfl]
    go_region_held3 (fun w' => w'.cell? ⟨b, 0, none⟩ = some (ptr tb) ∧ w'.cell? ⟨b, 1, none⟩ = some (ptr mb) ∧ w'.rangeAt g 0 ((Mt.log n ds).map b8))
      (first | exact HT.out.1 _ HT.out.2.1 | exact HT.out.1 _ H5.out | exact HT.out.1 _ (H5.out.alloc H5.out.size _) | exact HN.out.2.2.2.1.1 | exact HN.out.2.2.2.1.2.1 _)
      (first
        | (refine step_ap_own (.tmp 22) (.tmp 35) 24 Tryz.underlying24 info_rt rfl (by decide) (own_grown HA.out.2.2.2.1 (gro HE.out.1 (H5.out.alloc H5.out.size _))) 1 1 (news := rtCells ⟨ds.length, Mt.log n ds, Hm.root n m⟩) HRT.out.1 (Rd.of _ (Blk.new w5 _ _).whole) (rt_oc _) (by simp only [maxLen]; omega) (by omega) (Nat.le_trans HA.out.2.2.2.2.2 (gro HE.out.1 (H5.out.alloc H5.out.size _)).size) rfl rfl rfl rfl ?_
           intro v9 w9 hn1 hn2 hn3
           obtain ⟨A9, c9, rfl, hr9, hc9⟩ := rd_own hn1
           clear hr9 hc9
           have hk9 := HKK.out _ _ (H5.out.alloc H5.out.size _) hn2
           have k9 : w9.cell? ⟨b, 3, none⟩ = some pV := (by rw [hk9.2.2.cell]; rfl)
           have f9 := hk9.2.2.frozen 3
           have HN := hid (And.intro hn1 (And.intro hn2 (And.intro hn3 (And.intro hk9 (H5.out.alloc H5.out.size (.cells (rtCells ⟨ds.length, Mt.log n ds, Hm.root n m⟩).toArray 42))))))
           clear hn1 hn2 hn3 hk9)
        | (go_at_call 106; refine HT.out.2.2.1.mono ?_; rintro e w4 ⟨rfl, rfl⟩)
        | (go_at_call 107; refine HT.out.2.2.2.1.mono ?_; rintro e w5 ⟨rfl, hb5⟩; have k5 : w5.cell? ⟨b, 3, none⟩ = some pV := (by rw [(HT.out.2.2.2.2.grown (gro HT.out.2.1 hb5)).cell]; rfl); have k6 : ∀ o, (w5.alloc o).cell? ⟨b, 3, none⟩ = some pV := (fun o => by rw [((HT.out.2.2.2.2.grown (gro HT.out.2.1 hb5)).alloc o).cell]; rfl); have H5 := hid (gro HT.out.2.1 hb5); clear hb5))
    all_goals
      go_wp2_with fail
      go_ret
      have hkp := kept_of_grownBy HN.out.2.1
      have hk1 : Kept (fun k => k = b ∨ pV.ownBlock = some k) w w9 := (Kept.of_grown (gro HE.out.1 HN.out.2.2.2.2)).trans (hkp.mono fun k _ hk => .inr hk)
      have hk2 : Kept (fun k => k = b ∨ pV.ownBlock = some k) w (w9.setCell ⟨b, 3, none⟩ (.slice A9 (rs.length + 1) c9)) := hk1.setCell (.inl (.inl rfl)) _
      have hne : (Value.slice A9 (rs.length + 1) c9).ownBlock ≠ some b := own_ne HN.out.1 HN.out.2.2.2.1.2.2 (by decide)
      refine ⟨rfl, hk2, _, HN.out.2.2.2.1.2.2.set_ 3 _, ?_, ?_⟩
      · rw [rtRow_snoc]
        exact own_kept (S := (· = b)) HN.out.1 ((Kept.refl _ _).set1 3 _) fun k hk e => by subst e; exact hne hk
      · rcases HN.out.2.2.1 with h | h
        · exact .inl h
        · refine .inr fun k hk => ?_
          rw [h] at hk
          cases hk
          exact (gro HE.out.1 HN.out.2.2.2.2).size
end Go.Proofs.YtpnakfeafekneaaGreatDoor

namespace Go.Proofs.YtpnakfeafekneaaGreatDoor
open Go.RowKit
def SnapAt [Inhabited LoT] (S : Nat) (w : World) (n b : Nat) (es : List Ent) (rs : List Rt) : Prop :=
  ∃ tb mb A c L Ap cp, Blk w b 100 [ptr tb, ptr mb, .slice A es.length c, .slice Ap rs.length cp] ∧ TreeAt w tb n (Sn.leaves n es) ∧ MapAt w n mb (Sn.map n es) ∧ (Rd w A L.flatten ∧ EntsTy w L es ∧ Tyd w 36 A) ∧ (Rd w Ap (rtRow rs).flatten ∧ Tyd w 42 Ap ∧ ∀ a, Ap = some a → S ≤ a.block) ∧ rs.getLast? = some (Sn.root n es) ∧ ∀ r ∈ rs, RtOk r
theorem SnapAt.grown [Inhabited LoT] {S : Nat} {w w' : World} {n b : Nat} {es : List Ent} {rs : List Rt} (h : SnapAt S w n b es rs) (hb : Below w.heap.size w w') : SnapAt S w' n b es rs := by
  obtain ⟨tb, mb, A, c, L, Ap, cp, h1, h2, h3, ⟨h4, h5, h6⟩, ⟨h7, h8, h8'⟩, h9⟩ := h
  exact ⟨tb, mb, A, c, L, Ap, cp, h1.grown hb, h2.grown hb, h3.grown hb, ⟨h4.grown hb, h5.grown hb, h6.grown hb⟩, ⟨h7.grown hb, h8.grown hb, h8'⟩, h9⟩
theorem Sn.root_ok [Inhabited LoT] (n : Nat) (h2 : n ≤ 32) (es : List Ent) (hf : Fits n (Sn.leaves n es)) (hl : es.length < 1048576) : RtOk (Sn.root n es) :=
  ⟨log_len n h2 _ hf, root_log_len n h2 _, by show es.length < _; omega⟩
theorem bounded_snap [Inhabited LoT] (B b tb mb n : Nat) (h1 : 1 ≤ n) (h2 : n ≤ 32) (es : List Ent) (A : Option Addr) (c : Nat) (L : List (List Value)) (pV : Value) (rs : List Rt) (w : World)
    (hb : Blk w b 100 [ptr tb, ptr mb, .slice A es.length c, pV]) (ht : TreeAt w tb n (Sn.leaves n es)) (hm : MapAt w n mb (Sn.map n es)) (hr : Rd w A L.flatten) (he : EntsTy w L es) (hty : Tyd w 36 A) (hown : w.ownsRow B 42 65 pV rs.length (rtRow rs).flatten) (hB : B ≤ b) (hw : Words w) (hok : ∀ r ∈ rs, RtOk r) (hel : es.length < 1048576) (hrs : rs.length < 1048576) :
    Calls Tryz.prog 67 #[ptr b] w fun e w' => e = .returned (ptr b) ∧ Below B w w' ∧ SnapAt B w' n b es (rs ++ [Sn.root n es]) := by
  have hBw : B ≤ w.heap.size := Nat.le_trans hB (Nat.le_of_lt hb.lt)
  refine (sbounded_ok B b tb mb n h1 h2 (Sn.leaves n es) (Sn.map n es) (.slice A es.length c) pV rs w hb ht hm hown hBw hw (by simpa [Sn.leaves] using hel) hrs).mono ?_
  rintro e w' ⟨rfl, hk, pV', hb', hown', hno⟩
  have hS : ∀ k, (k = b ∨ pV.ownBlock = some k) → ∃ t cc fz, w.heap[k]? = some (.cells cc t fz) ∧ (t = 100 ∨ t = 42) := by
    rintro k (rfl | hk')
    · exact ⟨_, _, _, hb, .inl rfl⟩
    · obtain ⟨A2, c2, rfl, -, -⟩ := rd_own hown
      cases A2 with
      | none => cases hk'
      | some a =>
        obtain ⟨cc, fz, hh⟩ := own_tyd hown a rfl
        have : a.block = k := by simpa [Value.ownBlock] using hk'
        subst this
        exact ⟨_, _, _, hh, .inr rfl⟩
  have hP : Stay PureT w w' := Stay.pure_of_kept hk fun k hs => by
    obtain ⟨t, cc, fz, hh, ht'⟩ := hS k hs
    exact ⟨t, cc, fz, hh, by rcases ht' with rfl | rfl <;> decide⟩
  have hE : Stay (fun t => t = 36) w w' := Stay.of_kept hk fun k hs t' cc' fz' hh' => by
    obtain ⟨t, cc, fz, hh, ht'⟩ := hS k hs
    rw [hh] at hh'
    cases hh'
    rcases ht' with rfl | rfl <;> decide
  obtain ⟨Ap, cp, rfl, hr2, -⟩ := rd_own hown'
  have hlen : (rs ++ [Sn.root n es]).length = rs.length + 1 := by simp
  have hbel : Below B w w' := hk.below hBw fun k hk0 hs => by
    rcases hs with rfl | hs
    · omega
    · have := (hown.lt k hs).1; omega
  have hsn : (⟨(Sn.leaves n es).length, Mt.log n (Sn.leaves n es), Hm.root n (Sn.map n es)⟩ : Rt) = Sn.root n es := by simp [Sn.root, Sn.leaves]
  rw [hsn] at hr2 hown'
  refine ⟨rfl, hbel, tb, mb, A, c, L, Ap, cp, by rw [hlen]; exact hb', ht.stay hP, hm.stay hP, ⟨hE.rd hr hty rfl, he.stay hP, hE.tyd hty rfl⟩, ⟨hr2, own_tyd hown', fun a ha => (hown'.lt a.block (by rw [ha]; rfl)).1⟩, by simp, fun r hr' => ?_⟩
  rcases List.mem_append.1 hr' with h | h
  · exact hok r h
  · rw [List.mem_singleton] at h
    subst h
    exact Sn.root_ok n h2 es ht.fits hel
set_option maxHeartbeats 2000000 in
theorem snew_ok [Inhabited LoT] (n : Nat) (h1 : 1 ≤ n) (h2 : n ≤ 32) (w : World) (hw : Words w) (hlo : Lo ≤ w.heap.size) :
    Calls Tryz.prog 38 #[.int .i64 n] w fun e w' => ∃ b, e = .returned (.tuple #[ptr b, .int .i64 0]) ∧ Below w.heap.size w w' ∧ SnapAt w.heap.size w' n b [] [Sn.root n []] := by
  have HW := hid hw
  have HLO := hid hlo
  clear hw hlo
  go_enter Tryz.func38, Tryz.ntmps38
  go_wp2_with (first
    | (go_at_call 67
       refine (bounded_snap w.heap.size _ w.heap.size mb n h1 h2 [] none 0 [] (.slice none 0 0) [] _ (Blk.new w3 _ [ptr w.heap.size, ptr mb, .slice none 0 0, .slice none 0 0]) (((H2.out.2.grown H3.out.1)).grown (below_box _ _)) (H3.out.2.grown (below_box _ _)) (Rd.nil _ _) ⟨rfl, fun i x p h => by simp at h⟩ (Tyd.none _ _) (World.ownsRow_nil _ _ _ _) (gro H2.out.1 H3.out.1).size (HW.out.below (gro (gro H2.out.1 H3.out.1) (below_box _ _))) (fun r hr => by cases hr) (by decide) (by decide)).mono ?_
       rintro e w4 ⟨rfl, hb4, hs4⟩
       have H4 := hid (And.intro ((gro (gro H2.out.1 H3.out.1) (below_box w3 (.cells #[ptr w.heap.size, ptr mb, .slice none 0 0, .slice none 0 0] 100))).trans hb4) hs4)
       clear hb4 hs4)
    | (go_at_call 66
       refine (hnew_ok n h1 h2 _ (Nat.le_trans HLO.out H2.out.1.size)).mono ?_
       rintro e w3 ⟨mb, rfl, hb3, hm3⟩
       have H3 := hid (And.intro hb3 hm3)
       clear hb3 hm3)
    | (go_at_call 65
       refine (tnew_ok n h1 h2 w).mono ?_
       rintro e w2 ⟨rfl, hb2, ht2⟩
       have H2 := hid (And.intro hb2 ht2)
       clear hb2 ht2))
  go_ret2
  exact ⟨_, rfl, H4.out.1, H4.out.2⟩
end Go.Proofs.YtpnakfeafekneaaGreatDoor
