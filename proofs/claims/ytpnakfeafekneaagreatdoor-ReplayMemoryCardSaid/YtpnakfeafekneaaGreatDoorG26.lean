/- Part 26 of this proof: PC, PD, PE. -/
import Derived.Test.YtpnakfeafekneaaGreatDoorG25
set_option linter.unusedSimpArgs false
set_option linter.unusedVariables false
namespace Go.Proofs.YtpnakfeafekneaaGreatDoor
open Go.RowKit
namespace Hm
theorem single_ins_false {n : Nat} {x : Pr} {m : List Pr} (h : single n m = false) : single n (ins n x m) = false := by
  cases hs : single n (ins n x m) with
  | false => rfl
  | true => have := (single_ins.1 hs).1; rw [h] at this; cases this
theorem digs_ins (n t : Nat) (x : Pr) (m : List Pr) : digs n t (ins n x m) = lo (has n t m) (dig n t x) ++ ([dig n t x] ++ hi (has n t m) (dig n t x)) := by
  have h : ∀ i, has n t (ins n x m) i = (has n t m i || i == dig n t x) := fun i => has_ins i
  unfold digs
  rw [digs_split _ _ (dig_lt n t x), h, beq_self_eq_true, Bool.or_true, if_pos rfl]
  rw [lo_congr (Q := has n t m) fun i hi => by rw [h]; simp [hi], hi_congr (Q := has n t m) fun i hi => by rw [h]; simp [hi]]
theorem digs_old (n t : Nat) (m : List Pr) (d : Nat) (hd : d < 16) : digs n t m = lo (has n t m) d ++ ((if has n t m d then [d] else []) ++ hi (has n t m) d) := digs_split _ _ hd
theorem map_upd {α : Type} (P : Nat → Bool) (d : Nat) (val : Nat → α) (v : α) : (lo P d ++ ([d] ++ hi P d)).map (fun k => if k = d then v else val k) = (lo P d).map val ++ ([v] ++ (hi P d).map val) := by
  rw [List.map_append, List.map_append]
  congr 1
  · exact List.map_congr_left fun k hk => by rw [if_neg (by have := (mem_lo hk).1; omega)]
  · congr 1
    · simp
    · exact List.map_congr_left fun k hk => by rw [if_neg (by have := (mem_hi hk).1; omega)]
end Hm
structure BrAt [Inhabited LoT] (S : Nat → Prop) (w : World) (n f t pb : Nat) (m : List Pr) (A : Option Addr) (c : Nat) (z : Int) (val : Nat → Value) : Prop where
  many : Hm.single n m = false
  blk : Blk w pb 171 (brCells (Hm.bm n t m) (.slice A (Hm.digs n t m).length c) (Hm.node n (f + 1) t m) z)
  rd : Rd w A ((Hm.digs n t m).map val)
  cap : (Hm.digs n t m).length ≤ c
  own : (∀ a, A = some a → S a.block) ∧ Tyd w 157 A
  kids : ∀ i ∈ Hm.digs n t m, HtAt S w n f (t + 1) (val i) (Hm.child n t i m)
theorem BrAt.grown [Inhabited LoT] {S : Nat → Prop} {w w' : World} {n f t pb : Nat} {m : List Pr} {A : Option Addr} {c : Nat} {z : Int} {val : Nat → Value} (h : BrAt S w n f t pb m A c z val) (hb : Below w.heap.size w w') : BrAt S w' n f t pb m A c z val :=
  ⟨h.many, h.blk.grown hb, h.rd.grown hb, h.cap, ⟨h.own.1, h.own.2.grown hb⟩, fun i hi => HtAt.grown hb (h.kids i hi)⟩
theorem BrAt.oc [Inhabited LoT] {S : Nat → Prop} {w : World} {n f t pb : Nat} {m : List Pr} {A : Option Addr} {c : Nat} {z : Int} {val : Nat → Value} (h : BrAt S w n f t pb m A c z val) : ∀ v ∈ (Hm.digs n t m).map val, v.oneCell' = true := by
  intro v hv
  obtain ⟨i, hi, rfl⟩ := List.mem_map.1 hv
  obtain ⟨T, p, e⟩ := (h.kids i hi).shape
  rw [e]; rfl
theorem BrAt.kids_ins [Inhabited LoT] {S S' : Nat → Prop} {w w' : World} {n f t pb : Nat} {m : List Pr} {A : Option Addr} {c : Nat} {z : Int} {val : Nat → Value} {x : Pr} {v : Value} (h : BrAt S w n f t pb m A c z val) (hs : Hm.Srt n m) (hb : Below w.heap.size w w') (hSS : ∀ k, S k → S' k) (hv : HtAt S' w' n f (t + 1) v (Hm.ins n x (Hm.child n t (Hm.dig n t x) m))) :
    ∀ i ∈ Hm.digs n t (Hm.ins n x m), HtAt S' w' n f (t + 1) (if i = Hm.dig n t x then v else val i) (Hm.child n t i (Hm.ins n x m)) := by
  intro i hi
  rw [Hm.child_ins hs]
  by_cases hd : i = Hm.dig n t x
  · subst hd
    rw [if_pos rfl, if_pos rfl]; exact hv
  · rw [if_neg hd, if_neg (fun e => hd e.symm)]
    refine HtAt.mono hSS (HtAt.grown hb (h.kids i ?_))
    unfold Hm.digs at hi ⊢
    rw [List.mem_filter, Hm.has_ins] at hi
    rw [List.mem_filter]
    refine ⟨hi.1, ?_⟩
    have := hi.2
    simpa [hd] using this
theorem run_call_put (x1 x2 x3 x4 x5 : Value) (w : World) : (callFunc 116 (#[] ++ #[x1, x2, x3, x4, x5] ++ #[])).run Tryz.prog w = .ok (.enter 116 #[x1, x2, x3, x4, x5]) w := by kernel_rfl
theorem five_tmps {a : Act} {x1 x2 x3 x4 x5 : Value} {i1 i2 i3 i4 i5 : Nat} {j1 j2 j3 j4 j5 : Nat} (h : ([(j1, i1), (j2, i2), (j3, i3), (j4, i4), (j5, i5)] : List (Nat × Tmp)).map (fun p => a.tmps[p.2]?) = [x1, x2, x3, x4, x5].map some) :
    (#[.tmp i1, .tmp i2, .tmp i3, .tmp i4, .tmp i5] : Array Operand).map a.eval = #[x1, x2, x3, x4, x5] := by
  simp only [List.map_cons, List.map_nil, List.cons.injEq, and_true] at h
  obtain ⟨e1, e2, e3, e4, e5⟩ := h
  simp [Act.eval, Array.getD_eq_getD_getElem?, e1, e2, e3, e4, e5]
set_option maxHeartbeats 1000000 in
set_option maxRecDepth 100000 in
theorem put_br_has [Inhabited LoT] (B b n : Nat) (h1 : 1 ≤ n) (h2 : n ≤ 32) (f t pb : Nat) (hft : f + 1 + t = 2 * n) (m : List Pr) (x : Pr) (A : Option Addr) (c : Nat) (z : Int) (val : Nat → Value) (xc : List Value) (w : World) (hw : Words w) (hm : MapW w b n) (hB : B ≤ w.heap.size) (ha : BrAt (· < B) w n f t pb m A c z val) (hx : PairAt w xc x) (hs : Hm.Srt n m) (hxs : x.key.length ≤ 64 ∧ x.val.length ≤ 256)
    (hh : Hm.has n t m (Hm.dig n t x) = true)
    (hrec : ∀ w', Below w.heap.size w w' → Calls Tryz.prog 116 #[ptr b, val (Hm.dig n t x), .int .i64 ((t : Int) + 1), dg (Dg.key n x.key), .agg xc.toArray] w' fun e w'' => ∃ T p, e = .returned (ifp T p) ∧ Below w'.heap.size w' w'' ∧ HtAt (fun k => k < B ∨ w'.heap.size ≤ k) w'' n f (t + 1) (ifp T p) (Hm.ins n x (Hm.child n t (Hm.dig n t x) m))) :
    Calls Tryz.prog 116 #[ptr b, nbr pb, .int .i64 t, dg (Dg.key n x.key), .agg xc.toArray] w fun e w' => ∃ T p, e = .returned (ifp T p) ∧ Below w.heap.size w w' ∧ HtAt (fun k => k < B ∨ w.heap.size ≤ k) w' n (f + 1) t (ifp T p) (Hm.ins n x m) := by
  have hkl := Dg.sum_length n (Dg.keyIn x.key) h2
  have hklen : (Dg.key n x.key).length = 32 := hkl
  have hkf : Dg.form n (Dg.key n x.key) = true := Dg.form_sum _ _ h2
  have hdl := Hm.dig_lt n t x
  have hrk : Nib.rank (Hm.bm n t m) (Hm.dig n t x) = (Hm.lo (Hm.has n t m) (Hm.dig n t x)).length := Hm.bmf_rank _ _ hdl
  have hhs : Nib.has (Hm.bm n t m) (Hm.dig n t x) = true := by unfold Hm.bm; rw [Hm.bmf_has _ _ hdl]; exact hh
  have hbm := Hm.bm_lt n t m
  have hdo := Hm.digs_old n t m _ hdl
  rw [hh, if_pos rfl] at hdo
  have hdn := Hm.digs_ins n t x m
  have hdig : Hm.dig n t x = Dg.digit (Dg.key n x.key) t := rfl
  have hdd := fun w' (hb : Below w.heap.size w w') => hdigit_ok b n h1 h2 _ hklen hkf t (by omega) w' (hm.grown hb)
  rw [← hdig] at hdd
  generalize hK : Dg.key n x.key = K at hklen hkf hdd hrec
  have HK := hid hK
  generalize hdv : Hm.dig n t x = d at hdl hrk hhs hdo hdn hdd hrec hh
  have HDV := hid hdv
  generalize hr : (Hm.lo (Hm.has n t m) d).length = r at hrk
  have hdlen : (Hm.digs n t m).length = r + (1 + (Hm.hi (Hm.has n t m) d).length) := by rw [hdo]; simp [hr]; omega
  have hd16 := Hm.digs_le (Hm.has n t m)
  have hd16 : (Hm.digs n t m).length ≤ 16 := hd16
  generalize hq : Hm.bm n t m = q at hbm hhs hrk
  have HL := hid (show (K.map b8).length = 32 by simp [hklen])
  have hxl := hx.len
  have HA := hid (And.intro hw (And.intro hm (And.intro ha (And.intro hx (And.intro hs hxs)))))
  have HX := hid (And.intro hxl (And.intro hdd hrec))
  have HQ := hid (And.intro hq (And.intro hrk (And.intro hdo (And.intro hdn (And.intro hdlen (And.intro hr hh))))))
  have k0 := ha.blk
  rw [hq] at k0
  generalize hkk : (Hm.digs n t m).length = kk at k0 hdlen hd16
  have hrkk : r < kk := by omega
  have HKK := hid (And.intro hkk hdlen)
  have HBL := hid k0
  clear hw hm ha hx hs hxs hK hkl hxl hdd hrec hq hrk hdo hdn hr hdig k0 hkk hh hdv hdlen
  have hbx := Boxes.new w K xc
  have HBX := hid hbx
  clear hbx
  go_enter Tryz.func116, Tryz.ntmps116
  go_upto_region 1 with fail
  refine wp_world (fun w' => Boxes w w' K _) HBX.out ?_
  rintro w1 hb1
  have HB := hid hb1
  clear hb1 HBX
  have hbr := HA.out.2.2.1.grown HB.out.bl
  have hr1 := HB.out.of.whole
  have HBR := hid hbr
  clear hbr
  go_upto_region 16 with (first
    | ((with_reducible refine ld_mid 40 (.tmp 8) w.heap.size 0 _ 32 _ HL.out hr1 Tryz.underlying40 rfl (by kernel_rfl) ?_ ?_ ?_ ?_); rfl; rfl; rfl)
    | (go_at_call 96
       refine (HX.out.2.1 w1 HB.out.bl).mono ?_
       rintro e w3 ⟨rfl, hb3⟩
       have k3 := br_bm (HBL.out.grown (gro HB.out.bl hb3))
       have HV := hid hb3; clear hb3)
    | (go_at_call 90
       refine (rank_any q d hbm hdl _).mono ?_
       rw [HQ.out.2.1]
       rintro e w4 ⟨rfl, hb4⟩
       have HY := hid hb4; clear hb4 k3))
  have hbw4 := gro HB.out.bl (gro HV.out HY.out)
  have k4 := br_slice (HBL.out.grown hbw4)
  have hcl := clone_hnodes A kk c ((Hm.digs n t m).map val) w4 (by rw [List.length_map, HKK.out.1]; omega) (HA.out.2.2.1.rd.grown hbw4) HA.out.2.2.1.oc (by omega)
  have HC := hid (And.intro hcl (And.intro hbw4 (HB.out.grown (gro HV.out HY.out))))
  clear hbw4 hcl hr1 HB HBR HV HY
  go_upto_region 18 with (first
    | (go_at_call 164
       refine HC.out.1.mono ?_
       rintro e w5 ⟨v5, rfl, hb5, ho5, -⟩
       obtain ⟨g5, c5, cur5, rfl, hm5⟩ := mine_own ho5 (by omega)
       have k5 := br_bm (HBL.out.grown (gro HC.out.2.1 hb5))
       have HY := hid (And.intro hb5 hm5); clear hb5 hm5 ho5 k4)
    | (go_at_call 91
       refine (has_any q d hbm hdl _).mono ?_
       rw [hhs]
       rintro e w6 ⟨rfl, rfl⟩))
  have hpi : (0 : Int) ≤ (r : Int) ∧ (r : Int) < (kk : Int) := by omega
  have hc5 : w5.cell? ⟨g5, r, none⟩ = some (val d) := by
    have h := HY.out.2.blk.takes (kk * 1) r (val d) (by
      rw [HY.out.2.hx, HQ.out.2.2.1, List.map_append, List.getElem?_append_right (by rw [List.length_map, HQ.out.2.2.2.2.2.1]; exact Nat.le_refl _), List.length_map, HQ.out.2.2.2.2.2.1, Nat.sub_self]
      rfl)
    rwa [Nat.zero_add] at h
  have hbx5 := HC.out.2.2.grown HY.out.1
  have HE := hid (And.intro hc5 (And.intro hbx5 (gro HC.out.2.1 HY.out.1)))
  clear hc5 hbx5
  refine wp_region_own3 13 11 [(2, 94), (6, 98), (8, 100), (9, 101), (10, 102)] [ptr b, val d, .int .i64 ((t : Int) + 1), dg K, .agg xc.toArray] _ 116 #[ptr b, val d, .int .i64 ((t : Int) + 1), dg K, .agg xc.toArray] (fun u => ∃ T p, u = ifp T p) (ifp 0 0) (fun u w' => HtAt (fun k => k < B ∨ w5.heap.size ≤ k) w' n f (t + 1) u (Hm.ins n x (Hm.child n t d m)))
    [(92, .slice (some ⟨g5, 0, none⟩) kk c5), (93, .int .i64 r), (94, ptr b), (95, .slice (some ⟨g5, 0, none⟩) kk c5), (96, .int .i64 r), (97, .pointer (some ⟨g5, r, none⟩)), (98, val d), (99, .int .i64 t), (100, .int .i64 ((t : Int) + 1)), (101, dg K), (102, .agg xc.toArray), (104, .pointer (some ⟨g5, r, none⟩))]
    (by kernel_rfl) rfl (by kernel_rfl) ⟨0, 0, rfl⟩ rfl (by decide) (fun u => by kernel_rfl) (by kernel_rfl) ?hxs ?hrun ?hcall ?hst ?h ?ht
  case hxs => kernel_rfl
  case hrun =>
    intro a w' ha
    rw [execOp_call_go, five_tmps ha]
    exact run_call_put _ _ _ _ _ w'
  case hcall =>
    intro w' hb
    refine (HX.out.2.2 w' (gro HE.out.2.2 hb)).mono ?_
    rintro e w'' ⟨T, p, rfl, hb2, hh2⟩
    exact ⟨_, rfl, ⟨T, p, rfl⟩, hb2, HtAt.mono (fun k hk => hk.imp id (fun h => Nat.le_trans hb.size h)) hh2⟩
  case hst => exact fun u w1 w2 hb h => HtAt.grown hb h
  case h =>
    intro w7 u hu hb7
    have q1 := Fut.cell (show w7.cell? ⟨g5, r, none⟩ = some (val d) from by rw [hb7.cell (p := ⟨g5, r, none⟩) (World.block_lt_of_cell? _ _ HE.out.1)]; exact HE.out.1)
    have HR := hid (And.intro (range_fut (HE.out.2.1.grown hb7).of.whole) (range_fut (HE.out.2.1.grown hb7).xc.whole))
    dsimp only [List.take_succ_cons, List.take_zero, List.drop_succ_cons, List.drop_zero, List.set_cons_zero, List.set_cons_succ]
    repeat (first
      | (go_big_quiet_want; (with_reducible refine quiet_ld 40 (.tmp 8) w.heap.size 0 _ 32 _ HL.out HR.out.1 Tryz.underlying40 rfl (by kernel_rfl) ?_ ?_ ?_); rfl; rfl; simp only [Act.put, List.setIfInBounds_toArray, List.set_cons_zero, List.set_cons_succ]; go_big_quiet_on)
      | (go_big_quiet_want; (with_reducible refine quiet_ld 166 (.tmp 9) (w.heap.size + 1) 0 _ 2 _ HX.out.1 HR.out.2 Tryz.underlying166 rfl (by kernel_rfl) ?_ ?_ ?_); rfl; rfl; simp only [Act.put, List.setIfInBounds_toArray, List.set_cons_zero, List.set_cons_succ]; go_big_quiet_on)
      | go_big_quiet_step (fail))
    refine wpQuiet_nil ?_
    show _ = _
    kernel_rfl
  case ht =>
    rintro u w7 ⟨T7, p7, rfl⟩ hb7 hh7
    obtain ⟨T0, q0, hsh⟩ := (HA.out.2.2.1.kids d (by rw [HQ.out.2.2.1]; simp)).shape
    have hg5B := HY.out.2.hB
    have hg5l := HY.out.2.blk.lt
    have hw4s := HC.out.2.1.size
    have hbk7 := HY.out.2.blk.grown hb7
    have hc7 : w7.cell? ⟨g5, r, none⟩ = some (val d) := by rw [hb7.cell (p := ⟨g5, r, none⟩) hg5l]; exact HE.out.1
    have hf7 := hbk7.frozen r
    have hc7i := hc7
    rw [hsh] at hc7i
    have hh8 := HtAt.mono (S' := fun k => k < B ∨ w.heap.size ≤ k) (fun k hk => hk.imp id (fun h => Nat.le_trans HE.out.2.2.size h)) (HtAt.write (u := ifp T7 p7) hbk7 hc7i (show ¬ (g5 < B ∨ w5.heap.size ≤ g5) by omega) hh7)
    have hbl8 : Below w.heap.size w (w7.setCell ⟨g5, r, none⟩ (ifp T7 p7)) := (HE.out.2.2.trans (hb7.mono HE.out.2.2.size)).setCell (by show _ ≤ g5; omega) _
    have hbk8 := hbk7.set_ r (ifp T7 p7)
    have hlc5 := HY.out.2.len
    have hcc5 := HY.out.2.hc
    have hrow : Rd (w7.setCell ⟨g5, r, none⟩ (ifp T7 p7)) (some ⟨g5, 0, none⟩) ((Hm.digs n t (Hm.ins n x m)).map fun k => if k = d then ifp T7 p7 else val k) := by
      have e1 : (cur5.set r (ifp T7 p7)).take (kk * 1) = (Hm.digs n t (Hm.ins n x m)).map fun k => if k = d then ifp T7 p7 else val k := by
        rw [HQ.out.2.2.2.1, Hm.map_upd, List.take_set, HY.out.2.hx, HQ.out.2.2.1, List.map_append, List.map_append]
        have hl : ((Hm.lo (Hm.has n t m) d).map val).length = r := by rw [List.length_map]; exact HQ.out.2.2.2.2.2.1
        rw [List.set_append_right _ _ (by omega), hl, Nat.sub_self]
        rfl
      rw [← e1]
      exact Rd.of _ (hbk8.takes _)
    have hkids := HA.out.2.2.1.kids_ins (S' := fun k => k < B ∨ w.heap.size ≤ k) (x := x) (v := ifp T7 p7) HA.out.2.2.2.2.1 hbl8 (fun k hk => .inl hk) (by rw [HDV.out]; exact hh8)
    rw [HDV.out] at hkids
    have hfk := fork_ht (S := fun k => k < B ∨ w.heap.size ≤ k) b n f t h1 h2 (Hm.ins n x m) (Hm.single_ins_false HA.out.2.2.1.many) (fun k => if k = d then ifp T7 p7 else val k) (some ⟨g5, 0, none⟩) c5 kk (Nib.add q d) _ (HA.out.1.below hbl8) (HA.out.2.1.grown hbl8) (by rw [HQ.out.2.2.2.1, ← HQ.out.2.2.1]; exact HKK.out.1.symm) (by rw [Hm.bm_ins, HQ.out.1, HDV.out]) hrow (by omega) ⟨fun a e => by cases e; exact .inr (show w.heap.size ≤ g5 by omega), hbk8.tyd⟩ hkids
    have k8 := br_bm (HBL.out.below hbl8 HBL.out.lt)
    have HZ := hid (And.intro hfk hbl8)
    clear hbk7 hh8 hbl8 hbk8 hrow hkids hfk hh7 hc7i hsh hb7
    simp only [List.drop_succ_cons, List.drop_zero, Act.puts, List.foldl_cons, List.foldl_nil, Act.put, List.setIfInBounds_toArray, List.set_cons_zero, List.set_cons_succ]
    go_wp2_with (first
      | (go_at_call 167; refine (with_any q d hbm hdl _).mono ?_; rintro e w9 ⟨rfl, rfl⟩)
      | (go_at_call 166; refine HZ.out.1.mono ?_; rintro e w10 ⟨b', rfl, hb', hh⟩; have HW := hid (And.intro hb' hh); clear hb' hh))
    go_ret
    exact ⟨_, b', rfl, HZ.out.2.trans (HW.out.1.mono HZ.out.2.size), HW.out.2⟩
end Go.Proofs.YtpnakfeafekneaaGreatDoor

namespace Go.Proofs.YtpnakfeafekneaaGreatDoor
open Go.RowKit
set_option maxHeartbeats 1000000 in
set_option maxRecDepth 100000 in
theorem put_br_new [Inhabited LoT] (B b n : Nat) (h1 : 1 ≤ n) (h2 : n ≤ 32) (f t pb : Nat) (hft : f + 1 + t = 2 * n) (m : List Pr) (x : Pr) (A : Option Addr) (c : Nat) (z : Int) (val : Nat → Value) (xc : List Value) (w : World) (hw : Words w) (hm : MapW w b n) (hB : B ≤ w.heap.size) (ha : BrAt (· < B) w n f t pb m A c z val) (hx : PairAt w xc x) (hs : Hm.Srt n m) (hxs : x.key.length ≤ 64 ∧ x.val.length ≤ 256)
    (hh : Hm.has n t m (Hm.dig n t x) = false) :
    Calls Tryz.prog 116 #[ptr b, nbr pb, .int .i64 t, dg (Dg.key n x.key), .agg xc.toArray] w fun e w' => ∃ T p, e = .returned (ifp T p) ∧ Below w.heap.size w w' ∧ HtAt (fun k => k < B ∨ w.heap.size ≤ k) w' n (f + 1) t (ifp T p) (Hm.ins n x m) := by
  have hkl := Dg.sum_length n (Dg.keyIn x.key) h2
  have hklen : (Dg.key n x.key).length = 32 := hkl
  have hkf : Dg.form n (Dg.key n x.key) = true := Dg.form_sum _ _ h2
  have hdl := Hm.dig_lt n t x
  have hrk : Nib.rank (Hm.bm n t m) (Hm.dig n t x) = (Hm.lo (Hm.has n t m) (Hm.dig n t x)).length := Hm.bmf_rank _ _ hdl
  have hhs : Nib.has (Hm.bm n t m) (Hm.dig n t x) = false := by unfold Hm.bm; rw [Hm.bmf_has _ _ hdl]; exact hh
  have hbm := Hm.bm_lt n t m
  have hdo := Hm.digs_old n t m _ hdl
  rw [hh, if_neg (by decide), List.nil_append] at hdo
  have hdn := Hm.digs_ins n t x m
  have hdig : Hm.dig n t x = Dg.digit (Dg.key n x.key) t := rfl
  have hdd := fun w' (hb : Below w.heap.size w w') => hdigit_ok b n h1 h2 _ hklen hkf t (by omega) w' (hm.grown hb)
  rw [← hdig] at hdd
  generalize hK : Dg.key n x.key = K at hklen hkf hdd
  have HK := hid hK
  generalize hdv : Hm.dig n t x = d at hdl hrk hhs hdo hdn hdd hh
  have HDV := hid hdv
  generalize hr : (Hm.lo (Hm.has n t m) d).length = r at hrk
  have hdlen : (Hm.digs n t m).length = r + (Hm.hi (Hm.has n t m) d).length := by rw [hdo]; simp [hr]
  have hd16 := Hm.digs_le (Hm.has n t m)
  have hd16 : (Hm.digs n t m).length ≤ 16 := hd16
  generalize hq : Hm.bm n t m = q at hbm hhs hrk
  have HL := hid (show (K.map b8).length = 32 by simp [hklen])
  have hxl := hx.len
  obtain ⟨B1, d1, B2, d2, hxe, hx2⟩ := hx
  have hx : PairAt w xc x := ⟨B1, d1, B2, d2, hxe, hx2⟩
  have hcn : Hm.child n t d m = [] := by
    unfold Hm.child
    rw [List.filter_eq_nil_iff]
    intro p hp hd
    have := Hm.has_iff.2 ⟨p, hp, (by simpa using hd : Hm.dig n t p = d)⟩
    rw [hh] at this; cases this
  have HA := hid (And.intro hw (And.intro hm (And.intro ha (And.intro hx (And.intro hs hxs)))))
  have HX := hid (And.intro hxl (And.intro hdd (show ∀ y ∈ [xc], y.length = 2 from fun y hy => by rw [List.mem_singleton] at hy; subst hy; exact hxl)))
  have HQ := hid (And.intro hq (And.intro hrk (And.intro hdo (And.intro hdn (And.intro hdlen (And.intro hr (And.intro hh hcn)))))))
  have k0 := ha.blk
  rw [hq] at k0
  generalize hkk : (Hm.digs n t m).length = kk at k0 hdlen hd16
  have hrkk : r ≤ kk := by omega
  have hkk0 : 0 < kk := by rw [← hkk]; exact List.length_pos_iff.2 (fun e => by
    cases hm' : m with
    | nil => have := ha.many; rw [hm'] at this; simp [Hm.single] at this
    | cons p q => have := Hm.mem_digs.2 ⟨p, (by rw [hm']; simp : p ∈ m), (rfl : Hm.dig n t p = _)⟩; rw [e] at this; cases this)
  have HKK := hid (And.intro hkk hdlen)
  have HBL := hid k0
  clear hw hm ha hx hx2 hcn hs hxs hK hkl hxl hdd hq hrk hdo hdn hr hdig k0 hkk hh hdv hdlen
  have hbx := Boxes.new w K xc
  have HBX := hid hbx
  clear hbx
  subst hxe
  go_enter Tryz.func116, Tryz.ntmps116
  go_upto_region 1 with fail
  refine wp_world (fun w' => Boxes w w' K _) HBX.out ?_
  rintro w1 hb1
  have HB := hid hb1
  clear hb1 HBX
  have hbr := HA.out.2.2.1.grown HB.out.bl
  have hr1 := HB.out.of.whole
  have HBR := hid hbr
  clear hbr
  go_upto_region 16 with (first
    | ((with_reducible refine ld_mid 40 (.tmp 8) w.heap.size 0 _ 32 _ HL.out hr1 Tryz.underlying40 rfl (by kernel_rfl) ?_ ?_ ?_ ?_); rfl; rfl; rfl)
    | (go_at_call 96
       refine (HX.out.2.1 w1 HB.out.bl).mono ?_
       rintro e w3 ⟨rfl, hb3⟩
       have k3 := br_bm (HBL.out.grown (gro HB.out.bl hb3))
       have HV := hid hb3; clear hb3)
    | (go_at_call 90
       refine (rank_any q d hbm hdl _).mono ?_
       rw [HQ.out.2.1]
       rintro e w4 ⟨rfl, hb4⟩
       have HY := hid hb4; clear hb4 k3))
  have hbw4 := gro HB.out.bl (gro HV.out HY.out)
  have k4 := br_slice (HBL.out.grown hbw4)
  have hcl := clone_hnodes A kk c ((Hm.digs n t m).map val) w4 (by rw [List.length_map, HKK.out.1]; omega) (HA.out.2.2.1.rd.grown hbw4) HA.out.2.2.1.oc (by omega)
  have HC := hid (And.intro hcl (And.intro hbw4 (HB.out.grown (gro HV.out HY.out))))
  clear hbw4 hcl hr1 HB HBR HV HY
  go_wp2_with (first
    | ((with_reducible refine ld_mid 40 (.tmp 8) w.heap.size 0 _ 32 _ HL.out hr1 Tryz.underlying40 rfl (by kernel_rfl) ?_ ?_ ?_ ?_); rfl; rfl; rfl)
    | ((with_reducible refine ld_mid 166 (.tmp 9) (w.heap.size + 1) 0 _ 2 _ HX.out.1 hr2 Tryz.underlying166 rfl (by kernel_rfl) ?_ ?_ ?_ ?_); rfl; rfl; rfl)
    | ((with_reducible refine bs_own 110 166 1 #[(0, .tmp 109)] [[.slice B1 x.key.length d1, .slice B2 x.val.length d2]] 2 (by decide) HX.out.2.2 rfl (by decide) (by decide) Tryz.underlying110 (by kernel_rfl) ?_ ?_ ?_ ?_); rfl; rfl; rfl)
    | (go_at_call 164
       refine HC.out.1.mono ?_
       rintro e w5 ⟨v5, rfl, hb5, ho5, -⟩
       have k5 := br_bm (HBL.out.grown (gro HC.out.2.1 hb5))
       have hbx5 := HC.out.2.2.grown hb5
       have hr1 := hbx5.of.whole
       have hr2 := hbx5.xc.whole
       have hbs5 := below_box w5 (.cells #[.slice B1 x.key.length d1, .slice B2 x.val.length d2] 166)
       have hxs5 := HA.out.2.2.2.1.grown hbx5.bl
       have hpour := pour_any b n h1 h2 K hklen (some ⟨w5.heap.size, 0, none⟩) 1 [[.slice B1 x.key.length d1, .slice B2 x.val.length d2]] [x] (w5.alloc (.cells #[.slice B1 x.key.length d1, .slice B2 x.val.length d2] 166)) (HA.out.1.below (gro hbx5.bl hbs5)) (HA.out.2.1.grown (gro hbx5.bl hbs5)) (pairs_box hxs5) (PairsAt.one (hxs5.grown hbs5)) ⟨by simp, fun p hp => by rw [List.mem_singleton] at hp; subst hp; exact HA.out.2.2.2.2.2⟩
       have HY := hid (And.intro hb5 (And.intro ho5 (And.intro hbx5.bl (And.intro hpour (And.intro hbs5 hxs5)))))
       clear hb5 ho5 k4 hbx5 hbs5 hxs5 hpour)
    | (go_at_call 91
       refine (has_any q d hbm hdl _).mono ?_
       rw [hhs]
       rintro e w6 ⟨rfl, rfl⟩)
    | (go_at_call 161
       refine HY.out.2.2.2.1.mono ?_
       rintro e w7 ⟨p7, rfl, hb7, hk7⟩
       have hrow7 : Blk w7 w5.heap.size 166 [.slice B1 x.key.length d1, .slice B2 x.val.length d2] := (Blk.new w5 _ _).grown hb7
       have hb57 := gro HY.out.2.2.2.2.1 hb7
       have hbx7 := below_box w7 (.cells #[nbk p7] 157)
       have how := own_grown (own_grown HY.out.2.1 hb57) hbx7
       have hins := insert_nodes w4.heap.size kk r w7.heap.size v5 ((Hm.digs n t m).map val) [nbk p7] _ how (Blk.new w7 _ _) rfl (fun u hu => by rw [List.mem_singleton] at hu; subst hu; rfl) HA.out.2.2.1.oc (by omega) hkk0 hrkk (fun e => by have := (HY.out.2.1.lt _ e).2; have := hb57.size; omega) (Nat.le_trans HY.out.1.size (Nat.le_trans hb57.size hbx7.size))
       have HZ := hid (And.intro hins (And.intro (And.intro (hrow7.grown hbx7) (hk7.grown hbx7)) (And.intro (gro hb57 hbx7) hbx7)))
       clear hrow7 hb57 hbx7 how hins hb7 hk7)
    | (go_at_call 165
       refine HZ.out.1.mono ?_
       rintro e w9 ⟨A9, c9, rfl, hb9, hrd9, hc9, hA9, hkp9, hty9⟩
       have hw4s := HC.out.2.1.size
       have hbl9 : Below w.heap.size w w9 := (HY.out.2.2.1.trans (HZ.out.2.2.1.mono HY.out.2.2.1.size)).trans (hb9.mono hw4s)
       have hno : ∀ k (ty : TypeId) cs, Blk (w7.alloc (.cells #[nbk p7] 157)) k ty cs → ty ≠ 157 → ¬ v5.ownBlock = some k := fun k ty cs hb hne => own_ne (own_grown HY.out.2.1 HZ.out.2.2.1) hb (Ne.symm hne)
       have hbk9 : Bk w9 n (nbk p7) [x] := ⟨p7, K, some ⟨w5.heap.size, 0, none⟩, 1, [[.slice B1 x.key.length d1, .slice B2 x.val.length d2]], rfl, ⟨hkp9.blk HZ.out.2.1.2 (hno _ _ _ HZ.out.2.1.2 (by decide)), Rd.of _ (hkp9.blk HZ.out.2.1.1 (hno _ _ _ HZ.out.2.1.1 (by decide))).whole, PairsAt.one (HA.out.2.2.2.1.grown hbl9), Nat.le_refl _, fun p hp => by rw [List.mem_singleton] at hp; subst hp; exact HK.out, hklen, by simp, (hkp9.blk HZ.out.2.1.1 (hno _ _ _ HZ.out.2.1.1 (by decide))).tyd⟩⟩
       have hkids := HA.out.2.2.1.kids_ins (S' := fun k => k < B ∨ w.heap.size ≤ k) (x := x) (v := nbk p7) HA.out.2.2.2.2.1 hbl9 (fun k hk => .inl hk) (by rw [HDV.out, HQ.out.2.2.2.2.2.2.2]; exact hbk9.ht _ _)
       rw [HDV.out] at hkids
       have hrow : Rd w9 A9 ((Hm.digs n t (Hm.ins n x m)).map fun k => if k = d then nbk p7 else val k) := by
         have e1 : ((Hm.digs n t m).map val).take (r * 1) ++ ([nbk p7] ++ ((Hm.digs n t m).map val).drop (r * 1)) = (Hm.digs n t (Hm.ins n x m)).map fun k => if k = d then nbk p7 else val k := by
           rw [HQ.out.2.2.2.1, Hm.map_upd, HQ.out.2.2.1, List.map_append, Nat.mul_one]
           have hl : ((Hm.lo (Hm.has n t m) d).map val).length = r := by rw [List.length_map]; exact HQ.out.2.2.2.2.2.1
           rw [List.take_append_of_le_length (by omega), List.take_of_length_le (by omega), List.drop_append_of_le_length (by omega), List.drop_eq_nil_of_le (by omega), List.nil_append]
         rw [← e1]
         exact hrd9
       have hfk := fork_ht (S := fun k => k < B ∨ w.heap.size ≤ k) b n f t h1 h2 (Hm.ins n x m) (Hm.single_ins_false HA.out.2.2.1.many) (fun k => if k = d then nbk p7 else val k) A9 c9 (kk + 1) (Nib.add q d) _ (HA.out.1.below hbl9) (HA.out.2.1.grown hbl9) (by rw [HQ.out.2.2.2.1, HKK.out.2]; simp [HQ.out.2.2.2.2.2.1]; omega) (by rw [Hm.bm_ins, HQ.out.1, HDV.out]) hrow hc9 ⟨fun a e => .inr (Nat.le_trans hw4s (hA9 a e)), hty9⟩ hkids
       have k8 := br_bm (HBL.out.below hbl9 HBL.out.lt)
       have HW := hid (And.intro hfk hbl9)
       clear hw4s hbl9 hno hbk9 hkids hrow hfk hb9 hrd9 hc9 hA9 hkp9 hty9 k5)
    | (go_at_call 167; refine (with_any q d hbm hdl _).mono ?_; rintro e w10 ⟨rfl, rfl⟩)
    | (go_at_call 166; refine HW.out.1.mono ?_; rintro e w11 ⟨b', rfl, hb', hh⟩; have HV := hid (And.intro hb' hh); clear hb' hh))
  go_ret
  exact ⟨_, b', rfl, HW.out.2.trans (HV.out.1.mono HW.out.2.size), HV.out.2⟩
end Go.Proofs.YtpnakfeafekneaaGreatDoor

namespace Go.Proofs.YtpnakfeafekneaaGreatDoor
open Go.RowKit
set_option maxRecDepth 100000 in
theorem put_nil [Inhabited LoT] (b n : Nat) (h1 : 1 ≤ n) (h2 : n ≤ 32) (t : Nat) (x : Pr) (xc : List Value) (w : World) (hw : Words w) (hm : MapW w b n) (hx : PairAt w xc x) (hxs : x.key.length ≤ 64 ∧ x.val.length ≤ 256) :
    Calls Tryz.prog 116 #[ptr b, .nilIface, .int .i64 t, dg (Dg.key n x.key), .agg xc.toArray] w fun e w' => ∃ p, e = .returned (nbk p) ∧ Below w.heap.size w w' ∧ Bk w' n (nbk p) [x] := by
  have hkl := Dg.sum_length n (Dg.keyIn x.key) h2
  have hklen : (Dg.key n x.key).length = 32 := hkl
  generalize hK : Dg.key n x.key = K at hklen
  have HK := hid hK
  have HL := hid (show (K.map b8).length = 32 by simp [hklen])
  have hxl := hx.len
  obtain ⟨B1, d1, B2, d2, hxe, hx2⟩ := hx
  have hx : PairAt w xc x := ⟨B1, d1, B2, d2, hxe, hx2⟩
  have HA := hid (And.intro hw (And.intro hm (And.intro hx hxs)))
  have HX := hid (And.intro hxl (show ∀ y ∈ [xc], y.length = 2 from fun y hy => by rw [List.mem_singleton] at hy; subst hy; exact hxl))
  clear hw hm hx hxs hK hkl hx2 hxl
  have hbx := Boxes.new w K xc
  have HBX := hid hbx
  clear hbx
  subst hxe
  go_enter Tryz.func116, Tryz.ntmps116
  go_upto_region 1 with fail
  refine wp_world (fun w' => Boxes w w' K _) HBX.out ?_
  rintro w1 hb1
  have hr1 := hb1.of.whole
  have hr2 := hb1.xc.whole
  have hbs := below_box w1 (.cells #[.slice B1 x.key.length d1, .slice B2 x.val.length d2] 166)
  have hxs2 := HA.out.2.2.1.grown hb1.bl
  have hpour := pour_any b n h1 h2 K hklen (some ⟨w1.heap.size, 0, none⟩) 1 [[.slice B1 x.key.length d1, .slice B2 x.val.length d2]] [x] (w1.alloc (.cells #[.slice B1 x.key.length d1, .slice B2 x.val.length d2] 166)) (HA.out.1.below (gro hb1.bl hbs)) (HA.out.2.1.grown (gro hb1.bl hbs)) (pairs_box hxs2) (PairsAt.one (hxs2.grown hbs)) ⟨by simp, fun p hp => by rw [List.mem_singleton] at hp; subst hp; exact HA.out.2.2.2⟩
  have HB := hid (And.intro hb1.bl (And.intro hpour (And.intro hbs hxs2)))
  clear hb1 HBX hbs hxs2 hpour
  go_wp2_with (first
    | ((with_reducible refine ld_mid 40 (.tmp 8) w.heap.size 0 _ 32 _ HL.out hr1 Tryz.underlying40 rfl (by kernel_rfl) ?_ ?_ ?_ ?_); rfl; rfl; rfl)
    | ((with_reducible refine ld_mid 166 (.tmp 9) (w.heap.size + 1) 0 _ 2 _ HX.out.1 hr2 Tryz.underlying166 rfl (by kernel_rfl) ?_ ?_ ?_ ?_); rfl; rfl; rfl)
    | ((with_reducible refine bs_own 110 166 1 #[(0, .tmp 127)] [[.slice B1 x.key.length d1, .slice B2 x.val.length d2]] 2 (by decide) HX.out.2 rfl (by decide) (by decide) Tryz.underlying110 (by kernel_rfl) ?_ ?_ ?_ ?_); rfl; rfl; rfl)
    | (go_at_call 161
       refine HB.out.2.1.mono ?_
       rintro e w5 ⟨pb, rfl, hb5, hk5⟩
       have HV := hid (And.intro hb5 hk5); clear hb5 hk5))
  go_ret
  exact ⟨pb, rfl, gro (gro HB.out.1 HB.out.2.2.1) HV.out.1, bk_poured HV.out.2 HV.out.1 (pairs_box HB.out.2.2.2) (PairsAt.one (HB.out.2.2.2.grown HB.out.2.2.1)) (Nat.le_refl _) (fun p hp => by rw [List.mem_singleton] at hp; subst hp; exact HK.out) hklen (by simp) (Blk.tyd (Blk.new w1 _ _))⟩
theorem put_bk [Inhabited LoT] (S : Nat → Prop) (b n : Nat) (h1 : 1 ≤ n) (h2 : n ≤ 32) (f t : Nat) (hft : f + t = 2 * n) (v : Value) (m : List Pr) (x : Pr) (xc : List Value) (w : World) (hw : Words w) (hm : MapW w b n) (ha : Bk w n v m) (hx : PairAt w xc x) (hs : Hm.Srt n m) (hbd : Bnd m) (hml : m.length + 1 < 1048576)
    (hpre : ∀ p ∈ m, ∀ i, i < t → Hm.dig n i p = Hm.dig n i x) (hxs : x.key.length ≤ 64 ∧ x.val.length ≤ 256) (hS : ∀ k, w.heap.size ≤ k → S k) :
    Calls Tryz.prog 116 #[ptr b, v, .int .i64 t, dg (Dg.key n x.key), .agg xc.toArray] w fun e w' => ∃ T p, e = .returned (ifp T p) ∧ Below w.heap.size w w' ∧ HtAt S w' n f t (ifp T p) (Hm.ins n x m) := by
  obtain ⟨pa, of, A, c, L, rfl, ha⟩ := ha
  by_cases he : of = Dg.key n x.key
  · subst he
    cases hf : fnd m (pos m x.key) x.key with
    | true => exact (put_bk_found b n h1 h2 t pa m x A c L xc w hw hm ha hx hs hbd hxs hf).mono fun _ _ ⟨p, e, hb, hk⟩ => ⟨_, p, e, hb, hk.ht _ _⟩
    | false => exact (put_bk_new b n h1 h2 t pa m x A c L xc w hw hm ha hx hs hbd hxs hf hml).mono fun _ _ ⟨p, e, hb, hk⟩ => ⟨_, p, e, hb, hk.ht _ _⟩
  · refine put_bk_diff b n h1 h2 f t pa hft m x of A c L xc w hw hm ha hx hs he (fun i hi => ?_) hxs hS
    cases hme : m with
    | nil => exact absurd hme ha.ne
    | cons p r =>
      have hp : p ∈ m := by rw [hme]; simp
      rw [← ha.dig i hp, hpre p hp i hi]; rfl
theorem put_any [Inhabited LoT] (b n : Nat) (h1 : 1 ≤ n) (h2 : n ≤ 32) (x : Pr) (xc : List Value) (hxs : x.key.length ≤ 64 ∧ x.val.length ≤ 256) : ∀ (f t B : Nat) (v : Value) (m : List Pr) (w : World), f + t = 2 * n → B ≤ w.heap.size → Words w → MapW w b n → PairAt w xc x → HtAt (· < B) w n f t v m → Hm.Srt n m → Bnd m → m.length + 1 < 1048576 → (∀ p ∈ m, ∀ i, i < t → Hm.dig n i p = Hm.dig n i x) →
    Calls Tryz.prog 116 #[ptr b, v, .int .i64 t, dg (Dg.key n x.key), .agg xc.toArray] w fun e w' => ∃ T p, e = .returned (ifp T p) ∧ Below w.heap.size w w' ∧ HtAt (fun k => k < B ∨ w.heap.size ≤ k) w' n f t (ifp T p) (Hm.ins n x m) := by
  intro f
  induction f with
  | zero =>
    intro t B v m w hft hB hw hm hx ha hs hbd hml hpre
    exact put_bk _ b n h1 h2 0 t hft v m x xc w hw hm ha hx hs hbd hml hpre hxs (fun k hk => .inr hk)
  | succ f ih =>
    intro t B v m w hft hB hw hm hx ha hs hbd hml hpre
    rcases ha with ⟨_, ha⟩ | ⟨hsg, pb, A, c, z, val, rfl, h3, h4, h5, h6, h7⟩
    · exact put_bk _ b n h1 h2 (f + 1) t hft v m x xc w hw hm ha hx hs hbd hml hpre hxs (fun k hk => .inr hk)
    · have hbr : BrAt (· < B) w n f t pb m A c z val := ⟨hsg, h3, h4, h5, h6, h7⟩
      cases hh : Hm.has n t m (Hm.dig n t x) with
      | false => exact put_br_new B b n h1 h2 f t pb hft m x A c z val xc w hw hm hB hbr hx hs hxs hh
      | true =>
        refine put_br_has B b n h1 h2 f t pb hft m x A c z val xc w hw hm hB hbr hx hs hxs hh ?_
        intro w' hb
        have hd : Hm.dig n t x ∈ Hm.digs n t m := Hm.mem_digs.2 (Hm.has_iff.1 hh)
        have := ih (t + 1) B (val (Hm.dig n t x)) (Hm.child n t (Hm.dig n t x) m) w' (by omega) (Nat.le_trans hB hb.size) (hw.below hb) (hm.grown hb) (hx.grown hb) (HtAt.grown hb (h7 _ hd)) hs.child (hbd.filter _) (by have : (Hm.child n t (Hm.dig n t x) m).length ≤ m.length := List.length_filter_le _ _; omega) (fun p hp i hi => by
          obtain ⟨hp1, hp2⟩ := Hm.mem_child.1 hp
          rcases Nat.lt_or_ge i t with h | h
          · exact hpre p hp1 i h
          · obtain rfl : i = t := by omega
            exact hp2)
        rw [show ((t + 1 : Nat) : Int) = (t : Int) + 1 from rfl] at this
        exact this
end Go.Proofs.YtpnakfeafekneaaGreatDoor
