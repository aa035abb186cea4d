/- Part 34 of this proof: VZ, YA, YB, YC, YD. -/
import Derived.Test.YtpnakfeafekneaaGreatDoorG33
set_option linter.unusedSimpArgs false
set_option linter.unusedVariables false
namespace Go.Proofs.YtpnakfeafekneaaGreatDoor
open Go.RowKit
def ItAt (w : World) (n : Nat) (x : List Value) (p : Pr) : Prop := ∃ y, x = (Dg.key n p.key).map b8 ++ y ∧ PairAt w y p
structure ItsAt (w : World) (n : Nat) (L : List (List Value)) (m : List Pr) : Prop where
  len : L.length = m.length
  at_ : ∀ (i : Nat) (x : List Value) (p : Pr), L[i]? = some x → m[i]? = some p → ItAt w n x p
theorem key_len (n : Nat) (h2 : n ≤ 32) (k : List UInt8) : (Dg.key n k).length = 32 := Dg.sum_length n _ h2
theorem ItAt.grown {w w' : World} {n : Nat} {x : List Value} {p : Pr} (h : ItAt w n x p) (hb : Below w.heap.size w w') : ItAt w' n x p := by
  obtain ⟨y, e, h⟩ := h
  exact ⟨y, e, h.grown hb⟩
theorem ItAt.stay {w w' : World} (h : Stay PureT w w') {n : Nat} {x : List Value} {p : Pr} (hp : ItAt w n x p) : ItAt w' n x p := by
  obtain ⟨y, e, hp⟩ := hp
  exact ⟨y, e, hp.stay h⟩
theorem ItsAt.grown {w w' : World} {n : Nat} {L : List (List Value)} {m : List Pr} (h : ItsAt w n L m) (hb : Below w.heap.size w w') : ItsAt w' n L m := ⟨h.len, fun i x p h1 h2 => (h.at_ i x p h1 h2).grown hb⟩
theorem ItsAt.stay {w w' : World} (h : Stay PureT w w') {n : Nat} {L : List (List Value)} {m : List Pr} (hp : ItsAt w n L m) : ItsAt w' n L m := ⟨hp.len, fun i x p h1 h2 => (hp.at_ i x p h1 h2).stay h⟩
theorem ItAt.len {w : World} {n : Nat} {x : List Value} {p : Pr} (h2 : n ≤ 32) (h : ItAt w n x p) : x.length = 34 := by
  obtain ⟨y, rfl, A1, c1, A2, c2, rfl, -⟩ := h
  simp [key_len n h2]
theorem ItAt.oc {w : World} {n : Nat} {x : List Value} {p : Pr} (h : ItAt w n x p) : ∀ v ∈ x, v.oneCell' = true := by
  obtain ⟨y, rfl, A1, c1, A2, c2, rfl, -⟩ := h
  intro v hv
  rcases List.mem_append.1 hv with h | h
  · exact one_b8 _ v h
  · simp only [List.mem_cons, List.not_mem_nil, or_false] at h
    rcases h with rfl | rfl <;> rfl
theorem ItsAt.all34 {w : World} {n : Nat} {L : List (List Value)} {m : List Pr} (h2 : n ≤ 32) (h : ItsAt w n L m) : ∀ x ∈ L, x.length = 34 := by
  intro x hx
  obtain ⟨i, hi, rfl⟩ := List.getElem_of_mem hx
  have hps : i < m.length := by have := h.len; omega
  exact (h.at_ i L[i] m[i] (by simp [hi]) (by simp [hps])).len h2
theorem ItsAt.one {w : World} {n : Nat} {x : List Value} {p : Pr} (h : ItAt w n x p) : ItsAt w n [x] [p] := by
  refine ⟨rfl, fun i y q h1 h3 => ?_⟩
  have hi : i = 0 := by have := (List.getElem?_eq_some_iff.1 h1).1; simp at this; omega
  subst hi
  simp at h1 h3; subst h1; subst h3; exact h
theorem ItsAt.append {w : World} {n : Nat} {L1 L2 : List (List Value)} {m1 m2 : List Pr} (h1 : ItsAt w n L1 m1) (h2 : ItsAt w n L2 m2) : ItsAt w n (L1 ++ L2) (m1 ++ m2) := by
  refine ⟨by simp [h1.len, h2.len], fun i x p hx hp => ?_⟩
  have hl := h1.len
  by_cases hi : i < L1.length
  · rw [List.getElem?_append_left hi] at hx
    rw [List.getElem?_append_left (by omega)] at hp
    exact h1.at_ i x p hx hp
  · rw [List.getElem?_append_right (by omega)] at hx
    rw [List.getElem?_append_right (by omega)] at hp
    exact h2.at_ _ x p hx (by rw [hl]; exact hp)
theorem ItsAt.nil (w : World) (n : Nat) : ItsAt w n [] [] := ⟨rfl, fun i x p h => by simp at h⟩
theorem it_fill (parts : List (Nat × Value)) : Tryz.prog.built 225 parts = Instr.fill ((#[(0, 32), (32, 2)] : Array (Nat × Nat))[·]?) (List.replicate 32 (b8 0) ++ [Value.slice none 0 0, Value.slice none 0 0]).toArray parts := by kernel_rfl
theorem it_built (d : List UInt8) (hd : d.length = 32) (k v : Value) : Tryz.prog.built 225 [(0, dg d), (1, .agg #[k, v])] = some (d.map b8 ++ [k, v]).toArray := by
  have hD : (d.map b8).length = 32 := by simp [hd]
  rw [it_fill, fill_step _ _ 0 _ _ 0 32 rfl (d.map b8) rfl hD (by simp), splice_head _ _ _ (by rw [hD]; simp),
    fill_step _ _ 1 _ _ 32 2 rfl [k, v] rfl rfl (by simp [hd]), splice_tail _ _ _ _ (by simp [hd]),
    show splice [Value.slice none 0 0, Value.slice none 0 0] (32 - (d.map b8).length) [k, v] = [k, v] from by rw [hD]; rfl]
  rfl
theorem it_build_run (d : List UInt8) (hd : d.length = 32) (k v : Value) (w : World) : (Instr.build 225 #[(0, dg d), (1, .agg #[k, v])]).run Tryz.prog w = .ok (.agg (d.map b8 ++ [k, v]).toArray) w :=
  run_build (P := Tryz.prog) w _ #[(0, dg d), (1, .agg #[k, v])] _ (it_built d hd k v)
theorem pr_build_run (A1 : Option Addr) (n1 c1 : Nat) (A2 : Option Addr) (n2 c2 : Nat) (w : World) : (Instr.build 166 #[(0, .slice A1 n1 c1), (1, .slice A2 n2 c2)]).run Tryz.prog w = .ok (.agg #[.slice A1 n1 c1, .slice A2 n2 c2]) w :=
  run_build (P := Tryz.prog) w _ #[(0, .slice A1 n1 c1), (1, .slice A2 n2 c2)] _ (by kernel_rfl)
theorem twinN_any (A : Option Addr) (n c : Nat) (l : List UInt8) (w : World) (hn : l.length = n) (h : Rd w A (l.map b8)) (hl : n < 1099511627776) :
    Calls Tryz.prog 15 #[.slice A n c] w fun e w' => NewSl 5 w n (l.map b8) e w' := by
  subst hn; exact twin1_any A c l w h (by omega)
attribute [-go_sem] Instr.build Instr.buildSlice in
set_option maxHeartbeats 1000000 in
set_option maxRecDepth 100000 in
theorem item_any (n : Nat) (h2 : n ≤ 32) (A1 : Option Addr) (n1 c1 : Nat) (key : List UInt8) (A2 : Option Addr) (n2 c2 : Nat) (val : List UInt8) (w : World) (hn1 : key.length = n1) (hn2 : val.length = n2) (h1 : Rd w A1 (key.map b8)) (h3 : Rd w A2 (val.map b8)) (hl1 : n1 < 1048576) (hl2 : n2 < 1048576) :
    Calls Tryz.prog 155 #[.int .i64 n, .slice A1 n1 c1, .slice A2 n2 c2] w fun e w' => ∃ x, e = .returned (.agg x.toArray) ∧ Below w.heap.size w w' ∧ ItAt w' n x ⟨key, val⟩ := by
  have hz := Blk.new w 225 (List.replicate 32 (b8 0) ++ [Value.slice none 0 0, .slice none 0 0])
  have HA := hid (And.intro hn1 (And.intro hn2 (And.intro h1 (And.intro h3 (And.intro hz (below_box w (.cells (List.replicate 32 (b8 0) ++ [Value.slice none 0 0, .slice none 0 0]).toArray 225)))))))
  clear hn1 hn2 h1 h3 hz
  obtain ⟨D, hD⟩ : ∃ D, D = Dg.key n key := ⟨_, rfl⟩
  have hD32 : D.length = 32 := by rw [hD]; exact key_len n h2 key
  have HD := hid hD
  clear hD
  go_enter Tryz.func155, Tryz.ntmps155
  go_upto_region 1 with fail
  refine wp_world (fun w' => Blk w' w.heap.size 225 (List.replicate 32 (b8 0) ++ [Value.slice none 0 0, .slice none 0 0]) ∧ Below w.heap.size w w') HA.out.2.2.2.2 ?_
  rintro w0 ⟨hz, hbl⟩
  have HZ := hid (And.intro hz hbl)
  clear hz hbl
  have hpr := pr_build_run
  have hit := it_build_run D hD32
  go_wp2_with (first
    | (go_at_call 15
       with_reducible refine (twinN_any A2 n2 c2 val w2 HA.out.2.1 (HA.out.2.2.2.1.grown H2.out.1) (by omega)).mono ?_
       rintro e w3 ⟨A6, c6, rfl, hb3, hr6, hc6, -, ht6⟩
       have hb33 := gro H2.out.1 hb3
       have hx : PairAt w3 [.slice A5 n1 c5, .slice A6 n2 c6] ⟨key, val⟩ := ⟨A5, c5, A6, c6, by rw [HA.out.1, HA.out.2.1], H2.out.2.1.grown hb3, hr6, by rw [HA.out.1]; exact H2.out.2.2.1, by rw [HA.out.2.1]; exact hc6, TyB.zero (H2.out.2.2.2.1.grown hb3), TyB.zero ht6⟩
       have hzz := H2.out.2.2.2.2.grown hb3
       have hth := hzz.there 0 34 (by simp)
       have hxl : (D.map b8 ++ [Value.slice A5 n1 c5, .slice A6 n2 c6]).length = 34 := (by simp [hD32])
       have hxo : ∀ v ∈ D.map b8 ++ [Value.slice A5 n1 c5, .slice A6 n2 c6], v.oneCell' = true := (fun v hv => by
         rcases List.mem_append.1 hv with h | h
         · exact one_b8 _ v h
         · simp only [List.mem_cons, List.not_mem_nil, or_false] at h
           rcases h with rfl | rfl <;> rfl)
       have H3 := hid (And.intro hb33 (And.intro hx (And.intro hzz (And.intro hxl hxo))))
       clear hb3 hr6 hc6 ht6 hb33 hx hzz hxl hxo)
    | (go_at_call 15
       with_reducible refine (twinN_any A1 n1 c1 key w1 HA.out.1 (HA.out.2.2.1.grown H1.out.1) (by omega)).mono ?_
       rintro e w2 ⟨A5, c5, rfl, hb2, hr5, hc5, -, ht5⟩
       have H2 := hid (And.intro (gro H1.out.1 hb2) (And.intro hr5 (And.intro hc5 (And.intro ht5 (H1.out.2.grown hb2)))))
       clear hb2 hr5 hc5 ht5)
    | (go_at_call 197
       refine (rkey_any n A1 n1 c1 key _ h2 HA.out.1 (HA.out.2.2.1.grown HZ.out.2) (by omega)).mono ?_
       rintro e w1 ⟨rfl, hb1⟩
       rw [← HD.out]
       have H1 := hid (And.intro (gro HZ.out.2 hb1) (HZ.out.1.grown hb1))
       clear hb1)
    | ((with_reducible refine st_mid 225 (.tmp 6) (.tmp 15) w.heap.size 0 (D.map b8 ++ [Value.slice A5 n1 c5, .slice A6 n2 c6]) 34 H3.out.2.2.2.1 hth (by kernel_rfl) H3.out.2.2.2.2 ?_ ?_ ?_ ?_ ?_); rfl; rfl; rfl; rfl))
  exact rt_cell w.heap.size 0 _ 34 _ H3.out.2.2.2.1 (World.rangeAt_setCells_same _ _ _ _ (by rw [H3.out.2.2.2.1]; exact hth)) Tryz.underlying225 rfl (by kernel_rfl) rfl rfl rfl ⟨_, rfl, below_setCells _ (Nat.le_refl _) _ _ _ H3.out.1, _, by rw [HD.out], H3.out.2.1.stay (stay_sets H3.out.2.2.1 (by decide) 0 _)⟩
end Go.Proofs.YtpnakfeafekneaaGreatDoor

namespace Go.Proofs.YtpnakfeafekneaaGreatDoor
open Go.RowKit
def Hm.ord (n : Nat) (p q : Pr) : Int := if Lx.less (Dg.key n p.key) (Dg.key n q.key) ≠ 0 then Lx.less (Dg.key n p.key) (Dg.key n q.key) else Lx.less p.key q.key
theorem Hm.ord_cmp (n : Nat) (p q : Pr) : (Hm.ord n p q < 0 ↔ Hm.cmp n p q < 0) ∧ (Hm.ord n p q = 0 ↔ Hm.cmp n p q = 0) := by
  obtain ⟨h1, h2⟩ := Lx.less_cmp (Dg.key n p.key) (Dg.key n q.key)
  unfold Hm.ord Hm.cmp
  by_cases h : Lx.less (Dg.key n p.key) (Dg.key n q.key) = 0
  · rw [if_neg (by simp [h]), if_neg (by simp [h2.1 h])]; exact Lx.less_cmp _ _
  · rw [if_pos h, if_pos (fun e => h (h2.2 e))]; exact ⟨h1, h2⟩
theorem run_sliceAt_all {T e : TypeId} {n : Nat} {P : Program} (hT : P.underlying T = some (.array n e)) (hs : (P.info? e).map (·.size) = some 1) (b o : Nat) (hn : 0 < n) (w : World) :
    (Instr.sliceAt T (.pointer (some ⟨b, o, none⟩)) none none none).run P w = .ok (.slice (some ⟨b, o, none⟩) n n) w := by
  simp [Instr.sliceAt, Instr.sureAddr, run_underlying hT, Instr.sliceBounds, Instr.sliceBound, asIntOf, sizeOf_run hs, Addr.add, hn, Nat.pos_iff_ne_zero.1 hn]
theorem it_cells {w w0 : World} {n b : Nat} {x : List Value} {p : Pr} (h2 : n ≤ 32) (h : ItAt w0 n x p) (hb : Blk w b 225 x) : ∃ A1 c1 A2 c2, w.rangeAt b 0 ((Dg.key n p.key).map b8) ∧ w.cell? ⟨b, 32, none⟩ = some (.slice A1 p.key.length c1) ∧ w.cell? ⟨b, 33, none⟩ = some (.slice A2 p.val.length c2) ∧ Rd w0 A1 (p.key.map b8) ∧ Rd w0 A2 (p.val.map b8) := by
  obtain ⟨y, rfl, A1, c1, A2, c2, rfl, h1, h2', -⟩ := h
  have hl : ((Dg.key n p.key).map b8).length = 32 := by rw [List.length_map]; exact key_len n h2 _
  refine ⟨A1, c1, A2, c2, (range_halves hb.whole).1, ?_, ?_, h1, h2'⟩
  · rw [hb.cell, List.getElem?_append_right (by omega), hl]; rfl
  · rw [hb.cell, List.getElem?_append_right (by omega), hl]; rfl
set_option maxHeartbeats 1000000 in
set_option maxRecDepth 100000 in
theorem order_any (n : Nat) (h2 : n ≤ 32) (x y : List Value) (p q : Pr) (w : World) (hx : ItAt w n x p) (hy : ItAt w n y q) (hp : p.key.length < 1048576) (hq : q.key.length < 1048576) :
    Calls Tryz.prog 156 #[.agg x.toArray, .agg y.toArray] w fun e w' => e = .returned (.int .i64 (Hm.ord n p q)) ∧ Below w.heap.size w w' := by
  have hb1 := (Blk.new w 225 x).alloc (.cells y.toArray 225)
  have hb2 := Blk.new (w.alloc (.cells x.toArray 225)) 225 y
  rw [show (w.alloc (.cells x.toArray 225)).heap.size = w.heap.size + 1 by simp] at hb2
  have HA := hid (And.intro hx (And.intro hy (And.intro hb1 (And.intro hb2 (gro (below_box w (.cells x.toArray 225)) (below_box _ (.cells y.toArray 225)))))))
  clear hx hy hb1 hb2
  go_enter Tryz.func156, Tryz.ntmps156
  go_upto_region 1 with fail
  refine wp_world (fun w' => Blk w' w.heap.size 225 x ∧ Blk w' (w.heap.size + 1) 225 y ∧ Below w.heap.size w w') HA.out.2.2 ?_
  rintro w1 ⟨hb1, hb2, hbl⟩
  obtain ⟨A1, c1, A2, c2, k1, k2, -, r1, -⟩ := it_cells h2 HA.out.1 hb1
  obtain ⟨B1, d1, B2, d2, m1, m2, -, s1, -⟩ := it_cells h2 HA.out.2.1 hb2
  obtain ⟨dp, hdp⟩ : ∃ d, d = Dg.key n p.key := ⟨_, rfl⟩
  obtain ⟨dq, hdq⟩ : ∃ d, d = Dg.key n q.key := ⟨_, rfl⟩
  have hdl1 : dp.length = 32 := by rw [hdp]; exact key_len n h2 _
  have hdl2 : dq.length = 32 := by rw [hdq]; exact key_len n h2 _
  rw [← hdp] at k1
  rw [← hdq] at m1
  have a1 := run_sliceAt_all (P := Tryz.prog) Tryz.underlying40 (by kernel_rfl) w.heap.size 0 (by decide)
  have a2 := run_sliceAt_all (P := Tryz.prog) Tryz.underlying40 (by kernel_rfl) (w.heap.size + 1) 0 (by decide)
  have hc1 : ∀ s : Fut w1, Calls Tryz.prog 198 #[.slice (some ⟨w.heap.size, 0, none⟩) 32 32, .slice (some ⟨w.heap.size + 1, 0, none⟩) 32 32] s.v fun e w'' => e = .returned (.int .i64 (Lx.less dp dq)) ∧ ∃ s' : Fut w1, w'' = s'.v := fun s =>
    Calls.fut_of (less_any _ 32 32 dp _ 32 32 dq s.v hdl1 hdl2 (Rd.of _ (range_grown k1 s.below)) (Rd.of _ (range_grown m1 s.below)) (by decide) (by decide))
  obtain ⟨Z, hZ⟩ : ∃ Z, Z = Lx.less dp dq := ⟨_, rfl⟩
  have hzb := Lx.less_bound dp dq
  rw [← hZ] at hc1 hzb
  obtain ⟨np, hnp⟩ : ∃ np, p.key.length = np := ⟨_, rfl⟩
  obtain ⟨nq, hnq⟩ : ∃ nq, q.key.length = nq := ⟨_, rfl⟩
  rw [hnp] at k2 hp
  rw [hnq] at m2 hq
  have hord : Hm.ord n p q = if Z ≠ 0 then Z else Lx.less p.key q.key := by unfold Hm.ord; rw [← hdp, ← hdq, ← hZ]
  have HC := hid (And.intro hc1 (And.intro r1 (And.intro s1 (And.intro hnp (And.intro hnq (And.intro hord (And.intro hbl (And.intro k2 m2))))))))
  clear hc1 r1 s1 hnp hnq hord hbl hb1 hb2 k1 m1 hdp hdq hZ hdl1 hdl2 HA hzb k2 m2
  refine wp_region_fut (by kernel_rfl) (by kernel_rfl) ?_
  repeat go_big_quiet_step (with_reducible exact HC.out.1 _)
  refine wpQuiet_nil ?_
  rintro _ ⟨s, rfl⟩
  have k2 := Fut.cell HC.out.2.2.2.2.2.2.2.1 s
  have m2 := Fut.cell HC.out.2.2.2.2.2.2.2.2 s
  by_cases hz0 : Z = 0
  · subst hz0
    go_wp2_with (go_at_call 198
                 refine (less_any A1 np c1 p.key B1 nq d1 q.key _ HC.out.2.2.2.1 HC.out.2.2.2.2.1 (HC.out.2.1.grown (gro HC.out.2.2.2.2.2.2.1 s.below)) (HC.out.2.2.1.grown (gro HC.out.2.2.2.2.2.2.1 s.below)) (by omega) (by omega)).mono ?_
                 rintro e w5 ⟨rfl, hb5⟩
                 have H5 := hid hb5
                 clear hb5)
    go_ret
    exact ⟨by rw [HC.out.2.2.2.2.2.1]; simp, gro (gro HC.out.2.2.2.2.2.2.1 s.below) H5.out⟩
  · go_wp2_with fail
    go_ret
    exact ⟨by rw [HC.out.2.2.2.2.2.1, if_pos hz0]; rfl, gro HC.out.2.2.2.2.2.2.1 s.below⟩
theorem wrap_byte (x : Int) (h1 : 0 ≤ x) (h2 : x < 256) : wrap64 x = x := wrap_small x (by omega) (by omega)
set_option maxRecDepth 100000 in
theorem rdigit_any (d : List UInt8) (i : Nat) (hd : d.length = 32) (hi : i < 64) (w : World) : Calls Tryz.prog 213 #[dg d, .int .i64 i] w fun e w' => e = .returned (.int .i64 (Dg.digit d i)) ∧ Below w.heap.size w w' := by
  have hb : Blk (w.alloc (.cells (d.map b8).toArray 40)) w.heap.size 40 (d.map b8) := Blk.new w _ _
  obtain ⟨x, hx⟩ : ∃ x, x = d.getD (i / 2) 0 := ⟨_, rfl⟩
  have c0 : (w.alloc (.cells (d.map b8).toArray 40)).cell? ⟨w.heap.size, i / 2, none⟩ = some (b8 x) := by
    rw [hb.cell, List.getElem?_map, List.getElem?_eq_getElem (show i / 2 < d.length by omega), hx, List.getD_eq_getElem?_getD, List.getElem?_eq_getElem (show i / 2 < d.length by omega)]; rfl
  have hdg : Dg.digit d i = x.toNat / 2 ^ (4 - i % 2 * 4) % 16 := by rw [hx]; rfl
  have hxl := x.toNat_lt
  have HB := hid (And.intro c0 (And.intro (below_box w (.cells (d.map b8).toArray 40)) (And.intro hdg hxl)))
  clear c0 hb hdg hx hxl
  obtain ⟨q, hq⟩ : ∃ q, q = i / 2 := ⟨_, rfl⟩
  have hqi : (i : Int) / 2 = (q : Int) := by omega
  have hq32 : q < 32 := by omega
  rw [← hq] at HB
  go_enter Tryz.func213, Tryz.ntmps213
  go_upto_region 1 with fail
  refine wp_world (fun w' => w'.cell? ⟨w.heap.size, q, none⟩ = some (b8 x) ∧ Below w.heap.size w w') ⟨HB.out.1, HB.out.2.1⟩ ?_
  rintro w1 ⟨c1, hb1⟩
  have HB1 := hid hb1
  have HD := hid (And.intro HB.out.2.2.1 HB.out.2.2.2)
  clear hb1 HB hq
  have hpar : i % 2 = 0 ∨ i % 2 = 1 := by omega
  rcases hpar with h0 | h0
  · have h1 : (i : Int) % 2 = 0 := by omega
    have hv : (n8 x).tdiv 16 % 256 = ((Dg.digit d i : Nat) : Int) := by
      have e := HD.out.1; have hl := HD.out.2
      rw [h0] at e
      rw [Int.tdiv_eq_ediv_of_nonneg (n8_nonneg x), e]
      unfold n8
      have : x.toNat / 2 ^ (4 - 0 * 4) % 16 = x.toNat / 16 := by show x.toNat / 16 % 16 = _; omega
      rw [this]; omega
    have HV := hid hv
    clear hv h0
    go_wp2_with fail
    go_ret
    exact ⟨by rw [← HV.out]; rfl, HB1.out⟩
  · have h1 : (i : Int) % 2 = 1 := by omega
    have hv : wrap64 (n8 x % 16) = ((Dg.digit d i : Nat) : Int) := by
      have e := HD.out.1; have hl := HD.out.2
      rw [h0] at e
      rw [wrap_byte _ (by unfold n8; omega) (by unfold n8; omega), e]
      unfold n8
      have : x.toNat / 2 ^ (4 - 1 * 4) % 16 = x.toNat % 16 := by show x.toNat / 1 % 16 = _; omega
      rw [this]; omega
    have HV := hid hv
    clear hv h0
    go_wp2_with fail
    go_ret
    exact ⟨by rw [← HV.out]; rfl, HB1.out⟩
end Go.Proofs.YtpnakfeafekneaaGreatDoor

namespace Go.Proofs.YtpnakfeafekneaaGreatDoor
open Go.RowKit
theorem info_item : (Tryz.prog.info? 225).map (fun i => (i.zero, i.size, i.bytes)) = some (some (.agg (List.replicate 32 (Value.int .u8 0) ++ [Value.slice none 0 0, Value.slice none 0 0]).toArray), 34, 80) := by kernel_rfl
theorem rd_item {w : World} {n : Nat} {A : Option Addr} {L : List (List Value)} {m : List Pr} (h2 : n ≤ 32) (hA : Rd w A L.flatten) (hP : ItsAt w n L m) (j : Nat) (hj : j < m.length) : ∃ g o x, A = some ⟨g, o, none⟩ ∧ w.rangeAt g (o + j * 34) x ∧ x.length = 34 ∧ (∀ v ∈ x, v.oneCell' = true) ∧ ItAt w n x m[j] := by
  have hL := hP.len
  have hjl : j < L.length := by omega
  have h34 := hP.all34 h2
  obtain ⟨g, o, rfl, hr⟩ := hA (by
    intro e
    have := flatten_len 34 _ h34
    rw [e] at this
    simp at this; omega)
  have hp := range_part hr h34 j hjl
  have hi := hP.at_ j L[j] m[j] (by simp [hjl]) (by simp [hj])
  exact ⟨g, o, L[j], rfl, hp, hi.len h2, hi.oc, hi⟩
structure Itr (B n : Nat) (w0 w : World) (A : Option Addr) (k c : Nat) (m : List Pr) : Prop where
  ex : ∃ L, w.ownsRow B 225 34 (.slice A k c) k L.flatten ∧ ItsAt w n L m
  len : m.length = k
  bl : Below B w0 w
theorem Itr.start (n : Nat) (w : World) : Itr w.heap.size n w w none 0 0 [] := ⟨⟨[], World.ownsRow_nil _ _ _ _, ItsAt.nil _ _⟩, rfl, Below.refl _ _⟩
theorem Itr.grown {B n : Nat} {w0 w w' : World} {A : Option Addr} {k c : Nat} {m : List Pr} (h : Itr B n w0 w A k c m) (hB : B ≤ w.heap.size) (hb : Below w.heap.size w w') : Itr B n w0 w' A k c m := by
  obtain ⟨⟨L, h1, h2⟩, h3, h4⟩ := h
  exact ⟨⟨L, own_grown h1 hb, h2.grown hb⟩, h3, h4.trans (hb.mono hB)⟩
theorem ap_item {ops : Array Oper} {rest : List Oper} {o : Oper} {a : Act} {w w0 : World} {Q : Exit → Act → World → Prop} (s x : Operand) {B n k c : Nat} {A : Option Addr} {m : List Pr} (h2 : n ≤ 32) (hown : Itr B n w0 w A k c m) (hB : B ≤ w.heap.size) (y : List Value) (p : Pr) (hy : ItAt w n y p) (hk : k < 1048576)
    (hgd : o.guard = none) (ho : o.op = .call { callee := .builtin .append, args := #[s, x], argTypes := #[120, 120] }) (hs : a.eval s = .slice A k c) (hx : a.eval x = .slice (some ⟨w.heap.size, 0, none⟩) 1 1)
    (h : ∀ A' c' w', Itr B n w0 w' A' (k + 1) c' (m ++ [p]) → But 225 (w.alloc (.cells y.toArray 225)) w' → wpList Tryz.prog ops Q rest (a.put o.dst (.slice A' (k + 1) c')) w') : wpList Tryz.prog ops Q (o :: rest) a (w.alloc (.cells y.toArray 225)) := by
  obtain ⟨⟨L, h1, h3⟩, h4, h5⟩ := hown
  have hy34 := hy.len h2
  have hb := below_box w (.cells y.toArray 225)
  refine ap_own s x 120 Tryz.underlying120 info_item rfl (by decide) (own_grown h1 hb) 1 1 (news := y) (by omega) (Rd.of _ (Blk.new w _ y).whole) hy.oc (by unfold maxLen; omega) (by omega) (Nat.le_trans hB hb.size) hgd ho hs hx ?_
  intro v' w' g1 g2 _ _
  obtain ⟨A', c', rfl, _, _⟩ := rd_own g1
  have hbut := But.append (own_grown h1 hb) g2
  have hpure := hbut.pure (by decide)
  refine h A' c' w' ⟨⟨L ++ [y], by rw [List.flatten_append]; simpa using g1, ?_⟩, by simp [h4], grownBy_below (own_grown h1 hb) (h5.trans (hb.mono hB)) (Nat.le_trans hB hb.size) g2⟩ hbut
  exact ((h3.grown hb).append (ItsAt.one (hy.grown hb))).stay hpure
theorem Itr.rd {B n : Nat} {w0 w : World} {A : Option Addr} {k c : Nat} {m : List Pr} (h : Itr B n w0 w A k c m) : ∃ L, Rd w A L.flatten ∧ ItsAt w n L m ∧ k ≤ c := by
  obtain ⟨⟨L, h1, h2⟩, h3, h4⟩ := h
  exact ⟨L, (own_rd h1).1, h2, (own_rd h1).2⟩
def ItSl (w : World) (n : Nat) (A : Option Addr) (k c : Nat) (m : List Pr) : Prop := m.length = k ∧ k ≤ c ∧ ∃ L, Rd w A L.flatten ∧ ItsAt w n L m
theorem Itr.sl {B n : Nat} {w0 w : World} {A : Option Addr} {k c : Nat} {m : List Pr} (h : Itr B n w0 w A k c m) : ItSl w n A k c m := by
  obtain ⟨L, h1, h2, h3⟩ := h.rd
  exact ⟨h.len, h3, L, h1, h2⟩
theorem ItSl.grown {w w' : World} {n : Nat} {A : Option Addr} {k c : Nat} {m : List Pr} (h : ItSl w n A k c m) (hb : Below w.heap.size w w') : ItSl w' n A k c m := by
  obtain ⟨h1, h2, L, h3, h4⟩ := h
  exact ⟨h1, h2, L, h3.grown hb, h4.grown hb⟩
theorem del_take (key : List UInt8) (m : List Pr) (j : Nat) (hj : j < m.length) : Hm.del key (m.take (j + 1)) = if m[j].key = key then Hm.del key (m.take j) else Hm.del key (m.take j) ++ [m[j]] := by
  unfold Hm.del
  rw [List.take_succ_eq_append_getElem hj, List.filter_append]
  by_cases h : m[j].key = key
  · simp [h]
  · simp [h]
theorem child_take (n t i : Nat) (m : List Pr) (j : Nat) (hj : j < m.length) : Hm.child n t i (m.take (j + 1)) = if Hm.dig n t m[j] = i then Hm.child n t i (m.take j) ++ [m[j]] else Hm.child n t i (m.take j) := by
  unfold Hm.child
  rw [List.take_succ_eq_append_getElem hj, List.filter_append]
  by_cases h : Hm.dig n t m[j] = i
  · simp [h]
  · simp [h]
set_option maxHeartbeats 2000000 in
set_option maxRecDepth 100000 in
theorem rdelete_any (n : Nat) (h2 : n ≤ 32) (A : Option Addr) (k c : Nat) (m : List Pr) (B : Option Addr) (kn kc : Nat) (key : List UInt8) (w : World) (hm : ItSl w n A k c m) (hkn : key.length = kn) (hB : Rd w B (key.map b8)) (hk : k < 1048576) (hkn2 : kn < 1048576) (hsz : ∀ p ∈ m, p.key.length < 1048576) :
    Calls Tryz.prog 104 #[.slice A k c, .slice B kn kc] w fun e w' => ∃ A' k' c' b, e = .returned (.tuple #[.slice A' k' c', .bool b]) ∧ Below w.heap.size w w' ∧ ItSl w' n A' k' c' (Hm.del key m) := by
  obtain ⟨hmk, hkc, L, hA, hL⟩ := hm
  have HA := hid (And.intro hA (And.intro hL (And.intro hkn (And.intro hB (And.intro hsz hmk)))))
  clear hA hL hkn hB hsz
  go_enter Tryz.func104, Tryz.ntmps104
  go_wp2_with fail
  go_loopg [6, 11] k (fun g s3 i wr => ∃ (j : Nat) (A' : Option Addr) (c' k' : Nat), j + g = k ∧ k' ≤ j ∧ i = .int .i64 j ∧ s3 = .slice A' k' c' ∧ Itr w.heap.size n w wr A' k' c' (Hm.del key (m.take j)))
  case atStart => exact ⟨0, none, 0, 0, by omega, Nat.le_refl _, rfl, rfl, Itr.start n w⟩
  case round =>
    obtain ⟨j, A', c', k', hj, hkj, rfl, rfl, hi⟩ := hrel
    have HR := hid hi
    clear hi
    by_cases hlt : j < k
    · have hjm : j < m.length := by omega
      have hdt := del_take key m j hjm
      have hpsz := HA.out.2.2.2.2.1 m[j] (List.getElem_mem hjm)
      obtain ⟨g, o, x, rfl, hp, hx34, hxo, hx⟩ := rd_item h2 HA.out.1 HA.out.2.1 j hjm
      obtain ⟨p, hpe⟩ : ∃ p, p = m[j] := ⟨_, rfl⟩
      rw [← hpe] at hx hdt hpsz
      have hlb := range_lt hp (by omega)
      have hp2 := range_below hp HR.out.bl hlb
      obtain ⟨A1, c1, A2, c2, -, k1, -, r1, -⟩ := it_cells h2 hx (Blk.new wr 225 x)
      have hp9 := (Blk.new wr 225 x).whole
      have hb1 := below_box wr (.cells x.toArray 225)
      obtain ⟨np, hnp⟩ : ∃ np, p.key.length = np := ⟨_, rfl⟩
      rw [hnp] at k1 hpsz
      have HX := hid (And.intro hx (And.intro hdt (And.intro r1 (And.intro hnp (And.intro hb1 hp9)))))
      clear hx hdt r1 hnp hb1 hp9 hp hlb hpe
      by_cases heq : p.key = key
      · go_wp2_with (first
          | ((with_reducible refine ld_mid 225 (.tmp 13) g (o + j * 34) x 34 _ hx34 hp2 Tryz.underlying225 rfl (by kernel_rfl) ?_ ?_ ?_ ?_); rfl; rfl; rfl)
          | ((with_reducible refine st_new 225 (.tmp 8) (.tmp 14) _ _ x 34 hx34 ?_ (by kernel_rfl) hxo ?_ ?_ ?_ ?_ ?_); rfl; rfl; rfl; rfl; rfl)
          | (go_at_call 36
             refine (same_any A1 np c1 p.key B kn kc key _ HX.out.2.2.2.1 HA.out.2.2.1 (HX.out.2.2.1.grown (HR.out.bl.trans (HX.out.2.2.2.2.1.mono HR.out.bl.size))) (HA.out.2.2.2.1.grown (HR.out.bl.trans (HX.out.2.2.2.2.1.mono HR.out.bl.size))) (by omega) (by omega)).mono ?_
             rintro e w5 ⟨rfl, hb5⟩
             rw [show (p.key == key) = true from by simpa using heq]
             have H5 := hid hb5
             clear hb5))
        go_roundg (gk - 1)
        case measure => omega
        case rel => exact ⟨j + 1, A', c', k', by omega, by omega, by go_num, rfl, by rw [HX.out.2.1, if_pos heq]; exact (HR.out.grown HR.out.bl.size HX.out.2.2.2.2.1).grown (gro HR.out.bl HX.out.2.2.2.2.1).size H5.out⟩
      · go_wp2_with (first
          | ((with_reducible refine ld_mid 225 (.tmp 13) g (o + j * 34) x 34 _ hx34 hp2 Tryz.underlying225 rfl (by kernel_rfl) ?_ ?_ ?_ ?_); rfl; rfl; rfl)
          | ((with_reducible refine st_new 225 (.tmp 8) (.tmp 14) _ _ x 34 hx34 ?_ (by kernel_rfl) hxo ?_ ?_ ?_ ?_ ?_); rfl; rfl; rfl; rfl; rfl)
          | (go_at_call 36
             refine (same_any A1 np c1 p.key B kn kc key _ HX.out.2.2.2.1 HA.out.2.2.1 (HX.out.2.2.1.grown (HR.out.bl.trans (HX.out.2.2.2.2.1.mono HR.out.bl.size))) (HA.out.2.2.2.1.grown (HR.out.bl.trans (HX.out.2.2.2.2.1.mono HR.out.bl.size))) (by omega) (by omega)).mono ?_
             rintro e w5 ⟨rfl, hb5⟩
             rw [show (p.key == key) = false from by simpa using heq]
             have hp5 := range_grown HX.out.2.2.2.2.2 hb5
             have hbs5 := (gro (gro HR.out.bl HX.out.2.2.2.2.1) hb5).size
             have hsl : ∀ y ∈ [x], y.length = 34 := (fun y hy => by rw [List.mem_singleton] at hy; subst hy; exact hx34)
             have H5 := hid (And.intro ((HR.out.grown HR.out.bl.size HX.out.2.2.2.2.1).grown (gro HR.out.bl HX.out.2.2.2.2.1).size hb5) (HX.out.1.grown (gro (gro HR.out.bl HX.out.2.2.2.2.1) hb5)))
             clear hb5)
          | ((with_reducible refine ld_mid 225 (.tmp 8) wr.heap.size 0 x 34 _ hx34 hp5 Tryz.underlying225 rfl (by kernel_rfl) ?_ ?_ ?_ ?_); rfl; rfl; rfl)
          | ((with_reducible refine bs_own 120 225 1 #[(0, .tmp 22)] [x] 34 (by decide) hsl rfl (by decide) (by decide) Tryz.underlying120 (by kernel_rfl) ?_ ?_ ?_ ?_); rfl; rfl; rfl; rw [List.flatten_singleton])
          | ((with_reducible refine ap_item (.tmp 21) (.tmp 23) h2 H5.out.1 hbs5 x p H5.out.2 (by omega) ?_ ?_ ?_ ?_ ?_); rfl; rfl; rfl; rfl
             intro A9 c9 w9 hn1 _
             have H9 := hid hn1
             clear hn1))
        go_roundg (gk - 1)
        case measure => omega
        case rel => exact ⟨j + 1, A9, c9, k' + 1, by omega, by omega, by go_num, rfl, by rw [HX.out.2.1, if_neg heq]; exact H9.out⟩
    · obtain rfl : j = k := by omega
      have hfin := HR.out
      rw [List.take_of_length_le (by omega)] at hfin
      have HF := hid hfin
      clear hfin
      go_wp2_with fail
      go_ret2
      exact ⟨A', k', c', _, rfl, HF.out.bl, HF.out.sl⟩
end Go.Proofs.YtpnakfeafekneaaGreatDoor

namespace Go.Proofs.YtpnakfeafekneaaGreatDoor
open Go.RowKit
theorem Itr.new {B n : Nat} {w0 w : World} {A : Option Addr} {k c : Nat} {m : List Pr} (h : Itr B n w0 w A k c m) : ∀ a, A = some a → B ≤ a.block := by
  obtain ⟨⟨L, h1, h2⟩, h3, h4⟩ := h
  rintro a rfl
  exact (h1.lt a.block rfl).1
set_option maxHeartbeats 2000000 in
set_option maxRecDepth 100000 in
theorem rchild_any (n : Nat) (h2 : n ≤ 32) (A : Option Addr) (k c : Nat) (m : List Pr) (t i : Nat) (w : World) (hm : ItSl w n A k c m) (hk : k < 1048576) (ht : t < 64) :
    Calls Tryz.prog 195 #[.slice A k c, .int .i64 t, .int .i64 i] w fun e w' => ∃ A' k' c', e = .returned (.slice A' k' c') ∧ Below w.heap.size w w' ∧ ItSl w' n A' k' c' (Hm.child n t i m) ∧ ∀ a, A' = some a → w.heap.size ≤ a.block := by
  obtain ⟨hmk, hkc, L, hA, hL⟩ := hm
  have HA := hid (And.intro hA (And.intro hL hmk))
  clear hA hL
  go_enter Tryz.func195, Tryz.ntmps195
  go_wp2_with fail
  go_loopg [7, 12] k (fun g s3 i' wr => ∃ (j : Nat) (A' : Option Addr) (c' k' : Nat), j + g = k ∧ k' ≤ j ∧ i' = .int .i64 j ∧ s3 = .slice A' k' c' ∧ Itr w.heap.size n w wr A' k' c' (Hm.child n t i (m.take j)))
  case atStart => exact ⟨0, none, 0, 0, by omega, Nat.le_refl _, rfl, rfl, Itr.start n w⟩
  case round =>
    obtain ⟨j, A', c', k', hj, hkj, rfl, rfl, hi⟩ := hrel
    have HR := hid hi
    clear hi
    by_cases hlt : j < k
    · have hjm : j < m.length := by omega
      have hdt := child_take n t i m j hjm
      obtain ⟨g, o, x, rfl, hp, hx34, hxo, hx⟩ := rd_item h2 HA.out.1 HA.out.2.1 j hjm
      obtain ⟨p, hpe⟩ : ∃ p, p = m[j] := ⟨_, rfl⟩
      rw [← hpe] at hx hdt
      have hlb := range_lt hp (by omega)
      have hp2 := range_below hp HR.out.bl hlb
      obtain ⟨A1, c1, A2, c2, hd0, -, -, -, -⟩ := it_cells h2 hx (Blk.new wr 225 x)
      obtain ⟨D, hD⟩ : ∃ D, D = Dg.key n p.key := ⟨_, rfl⟩
      have hDl : D.length = 32 := by rw [hD]; exact key_len n h2 _
      have hDm : (D.map b8).length = 32 := by rw [List.length_map, hDl]
      obtain ⟨z, hz⟩ : ∃ z, z = Dg.digit D t := ⟨_, rfl⟩
      have hzd : Hm.dig n t p = z := by rw [hz, hD]; rfl
      rw [← hD] at hd0
      rw [hzd] at hdt
      have hp9 := (Blk.new wr 225 x).whole
      have hb1 := below_box wr (.cells x.toArray 225)
      have HX := hid (And.intro hx (And.intro hdt (And.intro hz (And.intro hb1 hp9))))
      clear hx hdt hb1 hp9 hp hlb hpe hD hzd hz
      by_cases heq : z = i
      · have hze : (z : Int) = (i : Int) := by omega
        go_wp2_with (first
          | ((with_reducible refine ld_mid 225 (.tmp 14) g (o + j * 34) x 34 _ hx34 hp2 Tryz.underlying225 rfl (by kernel_rfl) ?_ ?_ ?_ ?_); rfl; rfl; rfl)
          | ((with_reducible refine st_new 225 (.tmp 9) (.tmp 15) _ _ x 34 hx34 ?_ (by kernel_rfl) hxo ?_ ?_ ?_ ?_ ?_); rfl; rfl; rfl; rfl; rfl)
          | ((with_reducible refine ld_mid 40 (.tmp 16) wr.heap.size 0 (D.map b8) 32 _ hDm hd0 Tryz.underlying40 rfl (by kernel_rfl) ?_ ?_ ?_ ?_); rfl; rfl; rfl)
          | (go_at_call 213
             refine (rdigit_any D t hDl ht _).mono ?_
             rintro e w5 ⟨rfl, hb5⟩
             rw [← HX.out.2.2.1]
             have hp5 := range_grown HX.out.2.2.2.2 hb5
             have hbs5 := (gro (gro HR.out.bl HX.out.2.2.2.1) hb5).size
             have hsl : ∀ y ∈ [x], y.length = 34 := (fun y hy => by rw [List.mem_singleton] at hy; subst hy; exact hx34)
             have H5 := hid (And.intro ((HR.out.grown HR.out.bl.size HX.out.2.2.2.1).grown (gro HR.out.bl HX.out.2.2.2.1).size hb5) (HX.out.1.grown (gro (gro HR.out.bl HX.out.2.2.2.1) hb5)))
             clear hb5)
          | ((with_reducible refine ld_mid 225 (.tmp 9) wr.heap.size 0 x 34 _ hx34 hp5 Tryz.underlying225 rfl (by kernel_rfl) ?_ ?_ ?_ ?_); rfl; rfl; rfl)
          | ((with_reducible refine bs_own 120 225 1 #[(0, .tmp 23)] [x] 34 (by decide) hsl rfl (by decide) (by decide) Tryz.underlying120 (by kernel_rfl) ?_ ?_ ?_ ?_); rfl; rfl; rfl; rw [List.flatten_singleton])
          | ((with_reducible refine ap_item (.tmp 22) (.tmp 24) h2 H5.out.1 hbs5 x p H5.out.2 (by omega) ?_ ?_ ?_ ?_ ?_); rfl; rfl; rfl; rfl
             intro A9 c9 w9 hn1 _
             have H9 := hid hn1
             clear hn1))
        go_roundg (gk - 1)
        case measure => omega
        case rel => exact ⟨j + 1, A9, c9, k' + 1, by omega, by omega, by go_num, rfl, by rw [HX.out.2.1, if_pos heq]; exact H9.out⟩
      · have hze : ¬ (z : Int) = (i : Int) := by omega
        go_wp2_with (first
          | ((with_reducible refine ld_mid 225 (.tmp 14) g (o + j * 34) x 34 _ hx34 hp2 Tryz.underlying225 rfl (by kernel_rfl) ?_ ?_ ?_ ?_); rfl; rfl; rfl)
          | ((with_reducible refine st_new 225 (.tmp 9) (.tmp 15) _ _ x 34 hx34 ?_ (by kernel_rfl) hxo ?_ ?_ ?_ ?_ ?_); rfl; rfl; rfl; rfl; rfl)
          | ((with_reducible refine ld_mid 40 (.tmp 16) wr.heap.size 0 (D.map b8) 32 _ hDm hd0 Tryz.underlying40 rfl (by kernel_rfl) ?_ ?_ ?_ ?_); rfl; rfl; rfl)
          | (go_at_call 213
             refine (rdigit_any D t hDl ht _).mono ?_
             rintro e w5 ⟨rfl, hb5⟩
             rw [← HX.out.2.2.1]
             have H5 := hid hb5
             clear hb5))
        go_roundg (gk - 1)
        case measure => omega
        case rel => exact ⟨j + 1, A', c', k', by omega, by omega, by go_num, rfl, by rw [HX.out.2.1, if_neg heq]; exact (HR.out.grown HR.out.bl.size HX.out.2.2.2.1).grown (gro HR.out.bl HX.out.2.2.2.1).size H5.out⟩
    · obtain rfl : j = k := by omega
      have hfin := HR.out
      rw [List.take_of_length_le (by have := HA.out.2.2; omega)] at hfin
      have HF := hid hfin
      clear hfin
      go_wp2_with fail
      go_ret
      exact ⟨A', k', c', rfl, HF.out.bl, HF.out.sl, HF.out.new⟩
theorem PairAt.but {w w' : World} (h : But 166 w w') {x : List Value} {p : Pr} (hp : PairAt w x p) : PairAt w' x p := by
  obtain ⟨A1, c1, A2, c2, e, h1, h2, h3, h4, h5, h6⟩ := hp
  exact ⟨A1, c1, A2, c2, e, Stay.rdb h h1 h5 (by decide), Stay.rdb h h2 h6 (by decide), h3, h4, Stay.tyb h h5 (by decide), Stay.tyb h h6 (by decide)⟩
theorem PairsAt.but {w w' : World} (h : But 166 w w') {L : List (List Value)} {m : List Pr} (hp : PairsAt w L m) : PairsAt w' L m := ⟨hp.len, fun i x p h1 h2 => (hp.at_ i x p h1 h2).but h⟩
set_option maxHeartbeats 2000000 in
set_option maxRecDepth 100000 in
theorem rpairs_any (n : Nat) (h2 : n ≤ 32) (A : Option Addr) (k c : Nat) (m : List Pr) (w : World) (hm : ItSl w n A k c m) (hk : k < 1048576) :
    Calls Tryz.prog 152 #[.slice A k c] w fun e w' => ∃ A' c' L', e = .returned (.slice A' k c') ∧ Below w.heap.size w w' ∧ Rd w' A' L'.flatten ∧ PairsAt w' L' m := by
  obtain ⟨hmk, hkc, L, hA, hL⟩ := hm
  have HA := hid (And.intro hA (And.intro hL hmk))
  clear hA hL
  go_enter Tryz.func152, Tryz.ntmps152
  go_wp2_with fail
  go_loopg [3, 8] k (fun g s3 i' wr => ∃ (j : Nat) (A' : Option Addr) (c' : Nat) (L' : List (List Value)), j + g = k ∧ i' = .int .i64 j ∧ s3 = .slice A' j c' ∧ wr.ownsRow w.heap.size 166 2 (.slice A' j c') j L'.flatten ∧ PairsAt wr L' (m.take j) ∧ Below w.heap.size w wr)
  case atStart => exact ⟨0, none, 0, [], by omega, rfl, rfl, World.ownsRow_nil _ _ _ _, ⟨rfl, fun i x p h => by simp at h⟩, Below.refl _ _⟩
  case round =>
    obtain ⟨j, A', c', L', hj, rfl, rfl, ho, hP, hbl⟩ := hrel
    have HR := hid (And.intro ho (And.intro hP hbl))
    clear ho hP hbl
    by_cases hlt : j < k
    · have hjm : j < m.length := by omega
      have hdt : m.take (j + 1) = m.take j ++ [m[j]] := List.take_succ_eq_append_getElem hjm
      obtain ⟨g, o, x, rfl, hp, hx34, hxo, hx⟩ := rd_item h2 HA.out.1 HA.out.2.1 j hjm
      obtain ⟨p, hpe⟩ : ∃ p, p = m[j] := ⟨_, rfl⟩
      rw [← hpe] at hx hdt
      have hlb := range_lt hp (by omega)
      have hp2 := range_below hp HR.out.2.2 hlb
      obtain ⟨y, rfl, hy⟩ := hx
      have hyl : y.length = 2 := by obtain ⟨A1, c1, A2, c2, e, -⟩ := hy; rw [e]; rfl
      have hyo : ∀ v ∈ y, v.oneCell' = true := fun v hv => hxo v (List.mem_append.2 (.inr hv))
      have hbk := Blk.new wr 225 ((Dg.key n p.key).map b8 ++ y)
      have hb1 := below_box wr (.cells ((Dg.key n p.key).map b8 ++ y).toArray 225)
      have hr2 := (range_halves hbk.whole).2
      rw [show ((Dg.key n p.key).map b8).length = 32 from by rw [List.length_map]; exact key_len n h2 _] at hr2
      obtain ⟨x, hxe⟩ : ∃ x, x = (Dg.key n p.key).map b8 ++ y := ⟨_, rfl⟩
      rw [← hxe] at hx34 hxo hp2 hbk hb1 hr2
      have hb2 := below_box (wr.alloc (.cells x.toArray 225)) (.cells [y].flatten.toArray 166)
      have hr8 := Rd.of _ (Blk.new (wr.alloc (.cells x.toArray 225)) 166 [y].flatten).whole
      have hsl : ∀ z ∈ [y], z.length = 2 := fun z hz => by rw [List.mem_singleton] at hz; subst hz; exact hyl
      have hsl2 : [y].flatten.length = 1 * 2 := by simp [hyl]
      have hso : ∀ v ∈ [y].flatten, v.oneCell' = true := fun v hv => hyo v (by simpa using hv)
      have h63 : j + 1 ≤ maxLen := by simp only [maxLen]; omega
      have hby : (j + 1) * 48 ≤ 140737488355328 := by omega
      have hbw := gro hb1 hb2
      have hbs8 := (gro HR.out.2.2 hbw).size
      have HX := hid (And.intro hy (And.intro hdt (And.intro hbw (And.intro (own_grown HR.out.1 hbw) hr8))))
      clear hy hdt hb1 hp hlb hpe hbk hb2 hr8 hbw hxe hyo
      go_wp2_with (first
        | ((with_reducible refine ld_mid 225 (.tmp 10) g (o + j * 34) x 34 _ hx34 hp2 Tryz.underlying225 rfl (by kernel_rfl) ?_ ?_ ?_ ?_); rfl; rfl; rfl)
        | ((with_reducible refine st_new 225 (.tmp 5) (.tmp 11) _ _ x 34 hx34 ?_ (by kernel_rfl) hxo ?_ ?_ ?_ ?_ ?_); rfl; rfl; rfl; rfl; rfl)
        | ((with_reducible refine ld_mid 166 (.tmp 13) wr.heap.size 32 y 2 _ hyl hr2 Tryz.underlying166 rfl (by kernel_rfl) ?_ ?_ ?_ ?_); rfl; rfl; rfl)
        | ((with_reducible refine bs_own 110 166 1 #[(0, .tmp 14)] [y] 2 (by decide) hsl rfl (by decide) (by decide) Tryz.underlying110 (by kernel_rfl) ?_ ?_ ?_ ?_); rfl; rfl; rfl)
        | ((with_reducible refine ap_own (.tmp 12) (.tmp 15) 110 Tryz.underlying110 info_pair rfl (by decide) HX.out.2.2.2.1 1 1 hsl2 HX.out.2.2.2.2 hso h63 hby hbs8 ?_ ?_ ?_ ?_ ?_); rfl; rfl; rfl; rfl
           intro v9 w9 hn1 hn2 hn3 hn4
           obtain ⟨A9, c9, rfl, hr9, hc9⟩ := rd_own hn1
           have H9 := hid (And.intro hn1 (And.intro (But.append HX.out.2.2.2.1 hn2) (grownBy_below HX.out.2.2.2.1 (gro HR.out.2.2 HX.out.2.2.1) hbs8 hn2)))
           clear hn1 hn2 hn3 hn4 hr9 hc9))
      go_roundg (gk - 1)
      case measure => omega
      case rel =>
        refine ⟨j + 1, A9, c9, L' ++ [y], by omega, by go_num, rfl, by rw [List.flatten_append]; exact H9.out.1, ?_, H9.out.2.2⟩
        rw [HX.out.2.1]
        exact ((HR.out.2.1.grown HX.out.2.2.1).append (PairsAt.one (HX.out.1.grown (gro HR.out.2.2 HX.out.2.2.1)))).but H9.out.2.1
    · obtain rfl : j = k := by omega
      have hel := HR.out.2.1
      rw [List.take_of_length_le (by have := HA.out.2.2; omega)] at hel
      obtain ⟨hr9, -⟩ := own_rd HR.out.1
      have HF := hid (And.intro hel hr9)
      clear hel hr9
      go_wp2_with fail
      go_ret
      exact ⟨A', c', L', rfl, HR.out.2.2, HF.out.2, HF.out.1⟩
end Go.Proofs.YtpnakfeafekneaaGreatDoor

namespace Go.Proofs.YtpnakfeafekneaaGreatDoor
open Go.RowKit
theorem Hm.cmp_le {n : Nat} {p q : Pr} (h : Hm.cmp n p q < 0) : Lx.cmp (Dg.key n p.key) (Dg.key n q.key) ≤ 0 := by
  unfold Hm.cmp at h
  split at h
  · omega
  · rename_i hh; simp at hh; omega
theorem Hm.single_ends {n : Nat} {m : List Pr} (hs : Hm.Srt n m) (h : 0 < m.length) : Hm.single n m = decide (Dg.key n (m[0]).key = Dg.key n (m[m.length - 1]).key) := by
  have hp := List.pairwise_iff_getElem.1 hs
  by_cases he : Dg.key n (m[0]).key = Dg.key n (m[m.length - 1]).key
  · rw [decide_eq_true he, Hm.single_iff]
    have key : ∀ p ∈ m, Dg.key n p.key = Dg.key n (m[0]).key := by
      intro p hpm
      obtain ⟨i, hi, rfl⟩ := List.getElem_of_mem hpm
      by_cases h0 : i = 0
      · subst h0; rfl
      by_cases h1 : i = m.length - 1
      · subst h1; exact he.symm
      have a := Hm.cmp_le (hp 0 i h hi (by omega))
      have b := Hm.cmp_le (hp i (m.length - 1) hi (by omega) (by omega))
      rw [← he, Lx.cmp_neg] at b
      exact (Lx.cmp_eq (by omega)).symm
    intro p hp1 q hq1
    rw [key p hp1, key q hq1]
  · rw [decide_eq_false he]
    apply Bool.eq_false_iff.2
    intro hh
    exact he (Hm.single_iff.1 hh _ (List.getElem_mem _) _ (List.getElem_mem _))
set_option maxHeartbeats 1000000 in
set_option maxRecDepth 100000 in
theorem rsingle_any (n : Nat) (h2 : n ≤ 32) (A : Option Addr) (k c : Nat) (m : List Pr) (w : World) (hm : ItSl w n A k c m) (hs : Hm.Srt n m) (hk : k < 1048576) :
    Calls Tryz.prog 150 #[.slice A k c] w fun e w' => e = .returned (.bool (Hm.single n m)) ∧ Below w.heap.size w w' := by
  obtain ⟨hmk, hkc, L, hA, hL⟩ := hm
  rcases k with _ | k
  · obtain rfl : m = [] := List.length_eq_zero_iff.1 hmk
    clear hA hL
    go_enter Tryz.func150, Tryz.ntmps150
    go_upto_region 1 with fail
    refine wp_region_fut (by kernel_rfl) (by kernel_rfl) ?_
    repeat go_big_quiet_step (fail)
    refine wpQuiet_nil ?_
    rintro _ ⟨s, rfl⟩
    go_wp2_with fail
    go_ret
    exact ⟨rfl, s.below⟩
  · have hse := Hm.single_ends hs (by omega)
    obtain ⟨g, o, x, rfl, hp, hx34, -, hx⟩ := rd_item h2 hA hL 0 (by omega)
    obtain ⟨g', o', x', e, hp', hx34', -, hx'⟩ := rd_item h2 hA hL (m.length - 1) (by omega)
    cases e
    obtain ⟨y, rfl, -⟩ := hx
    obtain ⟨y', rfl, -⟩ := hx'
    have r1 := (range_halves hp).1
    have r2 := (range_halves hp').1
    obtain ⟨D, hD⟩ : ∃ D, D = Dg.key n (m[0]).key := ⟨_, rfl⟩
    obtain ⟨E, hE⟩ : ∃ E, E = Dg.key n (m[m.length - 1]).key := ⟨_, rfl⟩
    have hDl : D.length = 32 := by rw [hD]; exact key_len n h2 _
    have hEl : E.length = 32 := by rw [hE]; exact key_len n h2 _
    rw [← hD, Nat.zero_mul, Nat.add_zero] at r1
    rw [← hE, show m.length - 1 = k from by omega] at r2
    rw [← hD, ← hE] at hse
    have hDm : (D.map b8).length = 32 := by rw [List.length_map, hDl]
    have hEm : (E.map b8).length = 32 := by rw [List.length_map, hEl]
    have heq := run_eql_bytes (P := Tryz.prog) Tryz.underlying40 Tryz.underlying5 (by kernel_rfl) D E hDl hEl
    have hk1 : ((k + 1 : Nat) : Int) - 1 = (k : Int) := by omega
    have hk0 : ((k : Int) + 1 == 0) = false := by rw [beq_eq_false_iff_ne]; omega
    have HS := hid hse
    clear hse hD hE hp hp' hx34 hx34' hA hL hs
    go_enter Tryz.func150, Tryz.ntmps150
    go_upto_region 1 with fail
    refine wp_region_fut (by kernel_rfl) (by kernel_rfl) ?_
    repeat (first
      | (go_big_quiet_want; (with_reducible refine quiet_ld 40 (.tmp 9) g o _ 32 _ hDm (range_fut r1) Tryz.underlying40 rfl (by kernel_rfl) ?_ ?_ ?_); rfl; rfl; simp only [Act.put, List.setIfInBounds_toArray, List.set_cons_zero, List.set_cons_succ]; go_big_quiet_on)
      | (go_big_quiet_want; (with_reducible refine quiet_ld 40 (.tmp 16) g (o + k * 34) _ 32 _ hEm (range_fut r2) Tryz.underlying40 rfl (by kernel_rfl) ?_ ?_ ?_); rfl; rfl; simp only [Act.put, List.setIfInBounds_toArray, List.set_cons_zero, List.set_cons_succ]; go_big_quiet_on)
      | go_big_quiet_step (fail))
    refine wpQuiet_nil ?_
    rintro _ ⟨s, rfl⟩
    go_wp2_with fail
    go_ret
    exact ⟨by rw [HS.out]; rfl, s.below⟩
end Go.Proofs.YtpnakfeafekneaaGreatDoor
