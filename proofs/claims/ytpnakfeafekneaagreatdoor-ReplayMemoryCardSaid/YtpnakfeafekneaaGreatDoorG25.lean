/- Part 25 of this proof: PA, PB, R5. -/
import Derived.Test.YtpnakfeafekneaaGreatDoorG19
import Derived.Test.YtpnakfeafekneaaGreatDoorG24
set_option linter.unusedSimpArgs false
set_option linter.unusedVariables false
namespace Go.Proofs.YtpnakfeafekneaaGreatDoor
open Go.RowKit
@[go_sem] theorem as_bk_bk (p : Nat) (w : World) : (Instr.typeAssert (nbk p) 157 160 true).run Tryz.prog w = .ok (.tuple #[ptr p, .bool true]) w := by kernel_rfl
@[go_sem] theorem as_br_bk (p : Nat) (w : World) : (Instr.typeAssert (nbr p) 157 160 true).run Tryz.prog w = .ok (.tuple #[.pointer none, .bool false]) w := by kernel_rfl
@[go_sem] theorem as_br_br (p : Nat) (w : World) : (Instr.typeAssert (nbr p) 157 167 true).run Tryz.prog w = .ok (.tuple #[ptr p, .bool true]) w := by kernel_rfl
@[go_sem] theorem as_nil_bk (w : World) : (Instr.typeAssert .nilIface 157 160 true).run Tryz.prog w = .ok (.tuple #[.pointer none, .bool false]) w := by kernel_rfl
@[go_sem] theorem as_nil_br (w : World) : (Instr.typeAssert .nilIface 157 167 true).run Tryz.prog w = .ok (.tuple #[.pointer none, .bool false]) w := by kernel_rfl
structure Boxes (w w1 : World) (of : List UInt8) (xc : List Value) : Prop where
  of : Blk w1 w.heap.size 40 (of.map b8)
  xc : Blk w1 (w.heap.size + 1) 166 xc
  bl : Below w.heap.size w w1
theorem Boxes.new (w : World) (of : List UInt8) (xc : List Value) : Boxes w ((w.alloc (.cells (of.map b8).toArray 40)).alloc (.cells xc.toArray 166)) of xc := by
  have h := Blk.new (w.alloc (.cells (of.map b8).toArray 40)) 166 xc
  rw [show (w.alloc (.cells (of.map b8).toArray 40)).heap.size = w.heap.size + 1 by simp] at h
  exact ⟨(Blk.new w _ _).alloc _, h, gro (below_box _ _) (below_box _ _)⟩
theorem Boxes.grown {w w1 w2 : World} {of : List UInt8} {xc : List Value} (h : Boxes w w1 of xc) (hb : Below w1.heap.size w1 w2) : Boxes w w2 of xc := ⟨h.of.grown hb, h.xc.grown hb, gro h.bl hb⟩
theorem pairs_box [Inhabited LoT] {w : World} {xc : List Value} {x : Pr} (h : PairAt w xc x) : Rd (w.alloc (.cells [xc].flatten.toArray 166)) (some ⟨w.heap.size, 0, none⟩) [xc].flatten := Rd.of _ (Blk.new w _ _).whole
set_option maxRecDepth 100000 in
theorem put_bk_diff [Inhabited LoT] {S : Nat → Prop} (b n : Nat) (h1 : 1 ≤ n) (h2 : n ≤ 32) (f t pa : Nat) (hft : f + t = 2 * n) (m : List Pr) (x : Pr) (ofa : List UInt8) (A : Option Addr) (c : Nat) (L : List (List Value)) (xc : List Value) (w : World) (hw : Words w) (hm : MapW w b n) (ha : BkAt w n pa m ofa A c L) (hx : PairAt w xc x) (hs : Hm.Srt n m) (hne : ofa ≠ Dg.key n x.key)
    (hpre : ∀ i, i < t → Dg.digit ofa i = Dg.digit (Dg.key n x.key) i) (hxs : x.key.length ≤ 64 ∧ x.val.length ≤ 256) (hS : ∀ k, w.heap.size ≤ k → S k) :
    Calls Tryz.prog 116 #[ptr b, nbk pa, .int .i64 t, dg (Dg.key n x.key), .agg xc.toArray] w fun e w' => ∃ T p, e = .returned (ifp T p) ∧ Below w.heap.size w w' ∧ HtAt S w' n f t (ifp T p) (Hm.ins n x m) := by
  have hkl := Dg.sum_length n (Dg.keyIn x.key) h2
  have hklen : (Dg.key n x.key).length = 32 := hkl
  generalize hK : Dg.key n x.key = K at hne hpre hklen
  have HK := hid hK
  have HL := hid (show (K.map b8).length = 32 by simp [hklen])
  have HLa := hid (show (ofa.map b8).length = 32 by simp [ha.len])
  have hneq := run_neq_bytes (P := Tryz.prog) Tryz.underlying40 Tryz.underlying5 (by kernel_rfl) ofa K ha.len hklen
  rw [show (!decide (ofa = K)) = true by simp [hne]] at hneq
  have hxl := hx.len
  obtain ⟨B1, d1, B2, d2, hxe, hx2⟩ := hx
  have hx : PairAt w xc x := ⟨B1, d1, B2, d2, hxe, hx2⟩
  have HA := hid (And.intro hw (And.intro hm (And.intro ha (And.intro hx (And.intro hs (And.intro hne (And.intro hpre hxs)))))))
  have HX := hid (And.intro hxl (show ∀ y ∈ [xc], y.length = 2 from fun y hy => by rw [List.mem_singleton] at hy; subst hy; exact hxl))
  clear hw hm ha hx hs hne hpre hxs hK hkl hx2 hxl
  have hbx := Boxes.new w K xc
  have HBX := hid hbx
  clear hbx
  subst hxe
  go_enter Tryz.func116, Tryz.ntmps116
  go_upto_region 1 with fail
  refine wp_world (fun w' => Boxes w w' K _) HBX.out ?_
  rintro w1 hb1
  have HB := hid hb1
  clear hb1 HBX
  go_upto_region 4 with fail
  have hq1 := range_fut (HB.out.of.whole)
  have hq2 := range_fut (range_grown (bk_of HA.out.2.2.1.blk) HB.out.bl)
  have HQ := hid (And.intro hq1 hq2)
  clear hq1 hq2
  refine wp_region_fut (by kernel_rfl) (by kernel_rfl) ?_
  repeat (first
    | (go_big_quiet_want; (with_reducible refine quiet_ld 40 (.tmp 25) pa 0 _ 32 _ HLa.out HQ.out.2 Tryz.underlying40 rfl (by kernel_rfl) ?_ ?_ ?_); rfl; rfl; simp only [Act.put, List.setIfInBounds_toArray, List.set_cons_zero, List.set_cons_succ]; go_big_quiet_on)
    | (go_big_quiet_want; (with_reducible refine quiet_ld 40 (.tmp 8) w.heap.size 0 _ 32 _ HL.out HQ.out.1 Tryz.underlying40 rfl (by kernel_rfl) ?_ ?_ ?_); rfl; rfl; simp only [Act.put, List.setIfInBounds_toArray, List.set_cons_zero, List.set_cons_succ]; go_big_quiet_on)
    | go_big_quiet_step (fail))
  refine wpQuiet_nil ?_
  rintro _ ⟨s, rfl⟩
  have hb2 := HB.out.grown s.below
  have hr1 := hb2.of.whole
  have hr2 := hb2.xc.whole
  have hbx2 := below_box s.v (.cells #[.slice B1 x.key.length d1, .slice B2 x.val.length d2] 166)
  have hxs2 := HA.out.2.2.2.1.grown hb2.bl
  have hpour := pour_any b n h1 h2 K hklen (some ⟨s.v.heap.size, 0, none⟩) 1 [[.slice B1 x.key.length d1, .slice B2 x.val.length d2]] [x] (s.v.alloc (.cells #[.slice B1 x.key.length d1, .slice B2 x.val.length d2] 166)) (HA.out.1.below (gro hb2.bl hbx2)) (HA.out.2.1.grown (gro hb2.bl hbx2)) (pairs_box hxs2) (PairsAt.one (hxs2.grown hbx2)) ⟨by simp, fun p hp => by rw [List.mem_singleton] at hp; subst hp; exact HA.out.2.2.2.2.2.2.2⟩
  have HC := hid (And.intro hb2 (And.intro hpour (And.intro hbx2 hxs2)))
  clear hb2 HQ hneq hpour hbx2 hxs2
  go_wp2_with (first
    | ((with_reducible refine ld_mid 40 (.tmp 8) w.heap.size 0 _ 32 _ HL.out hr1 Tryz.underlying40 rfl (by kernel_rfl) ?_ ?_ ?_ ?_); rfl; rfl; rfl)
    | ((with_reducible refine ld_mid 166 (.tmp 9) (w.heap.size + 1) 0 _ 2 _ HX.out.1 hr2 Tryz.underlying166 rfl (by kernel_rfl) ?_ ?_ ?_ ?_); rfl; rfl; rfl)
    | ((with_reducible refine bs_own 110 166 1 #[(0, .tmp 34)] [[.slice B1 x.key.length d1, .slice B2 x.val.length d2]] 2 (by decide) HX.out.2 rfl (by decide) (by decide) Tryz.underlying110 (by kernel_rfl) ?_ ?_ ?_ ?_); rfl; rfl; rfl)
    | (go_at_call 161
       refine HC.out.2.1.mono ?_
       rintro e w5 ⟨pb, rfl, hb5, hk5⟩
       have hbk : BkAt w5 n pb [x] K (some ⟨s.v.heap.size, 0, none⟩) 1 [[.slice B1 x.key.length d1, .slice B2 x.val.length d2]] := ⟨hk5, (pairs_box HC.out.2.2.2).grown hb5, PairsAt.one ((HC.out.2.2.2.grown HC.out.2.2.1).grown hb5), Nat.le_refl _, fun p hp => by rw [List.mem_singleton] at hp; subst hp; exact HK.out, hklen, by simp, (Blk.tyd (Blk.new s.v _ _)).grown hb5⟩
       have hbl5 := gro HC.out.1.bl (gro HC.out.2.2.1 hb5)
       have hjn := hjoin_any b n h1 h2 m x ofa K HA.out.2.2.2.2.1 HA.out.2.2.2.2.2.1 f t pa pb A _ c _ L _ w5 hft (fun k hk => hS k (Nat.le_trans hbl5.size hk)) HA.out.2.2.2.2.2.2.1 (HA.out.2.2.1.grown hbl5) hbk (HA.out.1.below hbl5) (HA.out.2.1.grown hbl5)
       have HV := hid (And.intro hbl5 hjn); clear hb5 hk5 hbk hbl5 hjn)
    | (go_at_call 160
       refine HV.out.2.mono ?_
       rintro e w6 ⟨T6, p6, rfl, hb6, hh6⟩
       have HZ := hid (And.intro hb6 hh6); clear hb6 hh6))
  go_ret
  exact ⟨T6, p6, rfl, gro HV.out.1 HZ.out.1, HZ.out.2⟩
theorem splice_take {α : Type} (cur y : List α) (o k : Nat) (h1 : o + y.length ≤ k) (h2 : k ≤ cur.length) : (splice cur o y).take k = (cur.take k).take o ++ (y ++ (cur.take k).drop (o + y.length)) := by
  have e : (cur.take k).take o ++ (y ++ (cur.take k).drop (o + y.length)) = splice (cur.take k) o y := by unfold splice; rfl
  rw [e]
  apply List.ext_getElem?
  intro i
  rw [List.getElem?_take, splice_get _ _ _ (by omega), splice_get _ _ _ (by rw [List.length_take]; omega), List.getElem?_take]
  by_cases hi : i < k
  · rw [if_pos hi, if_pos hi]
  · rw [if_neg hi, if_neg hi, if_neg (by omega), if_neg (by omega)]
theorem bk_poured [Inhabited LoT] {w w' : World} {n b' : Nat} {m : List Pr} {of : List UInt8} {A : Option Addr} {c : Nat} {L : List (List Value)} (hb : Blk w' b' 164 (bkCells of (.slice A m.length c) (Dg.bucket n m))) (hg : Below w.heap.size w w') (hr : Rd w A L.flatten) (hp : PairsAt w L m) (hc : m.length ≤ c) (hk : ∀ p ∈ m, Dg.key n p.key = of) (hl : of.length = 32) (hne : m ≠ []) (hty : Tyd w 166 A) : Bk w' n (nbk b') m :=
  ⟨b', of, A, c, L, rfl, hb, hr.grown hg, hp.grown hg, hc, hk, hl, hne, hty.grown hg⟩
set_option maxHeartbeats 1000000 in
set_option maxRecDepth 100000 in
theorem put_bk_found [Inhabited LoT] (b n : Nat) (h1 : 1 ≤ n) (h2 : n ≤ 32) (t pa : Nat) (m : List Pr) (x : Pr) (A : Option Addr) (c : Nat) (L : List (List Value)) (xc : List Value) (w : World) (hw : Words w) (hm : MapW w b n) (ha : BkAt w n pa m (Dg.key n x.key) A c L) (hx : PairAt w xc x) (hs : Hm.Srt n m) (hbd : Bnd m)
    (hxs : x.key.length ≤ 64 ∧ x.val.length ≤ 256) (hf : fnd m (pos m x.key) x.key = true) :
    Calls Tryz.prog 116 #[ptr b, nbk pa, .int .i64 t, dg (Dg.key n x.key), .agg xc.toArray] w fun e w' => ∃ p, e = .returned (nbk p) ∧ Below w.heap.size w w' ∧ Bk w' n (nbk p) (Hm.ins n x m) := by
  have hin := ins_found hs ha.key rfl hf
  have hsp := spot (key := x.key) hs ha.key
  have hplt : pos m x.key < m.length := by obtain ⟨p, hp, _⟩ := fnd_iff.1 hf; exact (List.getElem?_eq_some_iff.1 hp).1
  have hkey := ha.key
  have hklen : (Dg.key n x.key).length = 32 := ha.len
  have hcf := fun w' (hb : Below w.heap.size w w') Ak ck (hk : Rd w' Ak (x.key.map b8)) => find_at n A Ak c ck L m (Dg.key n x.key) x.key w' (ha.rd.grown hb) (ha.at_.grown hb) hk hbd hs ha.key
  rw [hf] at hcf
  generalize hK : Dg.key n x.key = K at ha hcf hklen hkey
  have HK := hid hK
  generalize hpo : pos m x.key = po at hin hsp hplt hcf
  have HL := hid (show (K.map b8).length = 32 by simp [hklen])
  have hneq := run_neq_bytes (P := Tryz.prog) Tryz.underlying40 Tryz.underlying5 (by kernel_rfl) K K hklen hklen
  rw [show (!decide (K = K)) = false by simp] at hneq
  have hxl := hx.len
  obtain ⟨B1, d1, B2, d2, hxe, hx2⟩ := hx
  have hx : PairAt w xc x := ⟨B1, d1, B2, d2, hxe, hx2⟩
  have HA := hid (And.intro hw (And.intro hm (And.intro ha (And.intro hx (And.intro hs (And.intro hbd (And.intro hxs (And.intro hin (And.intro hkey hx2)))))))))
  have HX := hid (And.intro hxl hcf)
  have h0 : 0 < m.length := by omega
  have hml := hbd.1
  clear hw hm ha hx hs hxs hK hx2 hxl hcf hbd hin hsp hkey hf hpo
  have hbx := Boxes.new w K xc
  have HBX := hid hbx
  clear hbx
  subst hxe
  go_enter Tryz.func116, Tryz.ntmps116
  go_upto_region 1 with fail
  refine wp_world (fun w' => Boxes w w' K _) HBX.out ?_
  rintro w1 hb1
  have HB := hid hb1
  clear hb1 HBX
  go_upto_region 4 with fail
  have hq1 := range_fut (HB.out.of.whole)
  have hq2 := range_fut (range_grown (bk_of HA.out.2.2.1.blk) HB.out.bl)
  have HQ := hid (And.intro hq1 hq2)
  clear hq1 hq2
  refine wp_region_fut (by kernel_rfl) (by kernel_rfl) ?_
  repeat (first
    | (go_big_quiet_want; (with_reducible refine quiet_ld 40 (.tmp 25) pa 0 _ 32 _ HL.out HQ.out.2 Tryz.underlying40 rfl (by kernel_rfl) ?_ ?_ ?_); rfl; rfl; simp only [Act.put, List.setIfInBounds_toArray, List.set_cons_zero, List.set_cons_succ]; go_big_quiet_on)
    | (go_big_quiet_want; (with_reducible refine quiet_ld 40 (.tmp 8) w.heap.size 0 _ 32 _ HL.out HQ.out.1 Tryz.underlying40 rfl (by kernel_rfl) ?_ ?_ ?_); rfl; rfl; simp only [Act.put, List.setIfInBounds_toArray, List.set_cons_zero, List.set_cons_succ]; go_big_quiet_on)
    | go_big_quiet_step (fail))
  refine wpQuiet_nil ?_
  rintro _ ⟨s, rfl⟩
  have hb2 := HB.out.grown s.below
  have HC := hid hb2
  clear hb2 HQ hneq
  go_upto_region 6 with fail
  have q1 := Fut.cell (show s.v.cell? ⟨pa, 32, none⟩ = some (.slice A m.length c) from bk_slice (HA.out.2.2.1.blk.grown HC.out.bl) hklen)
  have q2 := Fut.cell (show s.v.cell? ⟨w.heap.size + 1, 0, none⟩ = some (.slice B1 x.key.length d1) from by rw [HC.out.xc.cell]; rfl)
  have hcf : ∀ s2 : Fut s.v, Calls Tryz.prog 94 #[.slice A m.length c, .slice B1 x.key.length d1] s2.v fun e w'' => e = .returned (.tuple #[.int .i64 po, .bool true]) ∧ ∃ s' : Fut s.v, w'' = s'.v := fun s2 => Calls.fut_of (HX.out.2 s2.v (gro HC.out.bl s2.below) B1 d1 ((HA.out.2.2.2.2.2.2.2.2.2.1.grown HC.out.bl).grown s2.below))
  have HQ := hid hcf
  clear hcf
  refine wp_region_fut (by kernel_rfl) (by kernel_rfl) ?_
  repeat (go_big_quiet_step (with_reducible exact HQ.out _))
  refine wpQuiet_nil ?_
  rintro _ ⟨s2, rfl⟩
  clear q1 q2 HQ
  have hb3 := HC.out.grown s2.below
  have k32 : s2.v.cell? ⟨pa, 32, none⟩ = some (.slice A m.length c) := bk_slice (HA.out.2.2.1.blk.grown hb3.bl) hklen
  have hcl := clone_pairs A m.length c L.flatten s2.v HA.out.2.2.1.at_.flat (HA.out.2.2.1.rd.grown hb3.bl) HA.out.2.2.1.at_.oc (by omega)
  have hpi : (0 : Int) ≤ (po : Int) ∧ (po : Int) < (m.length : Int) := by omega
  have hlen : (Hm.ins n x m).length = m.length := by rw [HA.out.2.2.2.2.2.2.2.1]; simp; omega
  have HD := hid (And.intro hb3 (And.intro hcl hlen))
  clear hb3 hcl hlen HB HC
  go_wp2_with (first
    | ((with_reducible refine ld_mid 40 (.tmp 8) w.heap.size 0 _ 32 _ HL.out hr1 Tryz.underlying40 rfl (by kernel_rfl) ?_ ?_ ?_ ?_); rfl; rfl; rfl)
    | ((with_reducible refine ld_mid 166 (.tmp 9) (w.heap.size + 1) 0 _ 2 _ HX.out.1 hr2 Tryz.underlying166 rfl (by kernel_rfl) ?_ ?_ ?_ ?_); rfl; rfl; rfl)
    | ((with_reducible refine st_mid 166 (.tmp 57) (.tmp 56) g5 (po * 2) [.slice B1 x.key.length d1, .slice B2 x.val.length d2] 2 HX.out.1 ht5 (by kernel_rfl) HY.out.2.2 ?_ ?_ ?_ ?_ ?_); rfl; rfl; rfl; rfl)
    | (go_at_call 162
       refine HD.out.2.1.mono ?_
       rintro e w5 ⟨v5, rfl, hb5, ho5, -⟩
       obtain ⟨g5, c5, cur5, rfl, hm5⟩ := mine_own ho5 h0
       have hb6 := HD.out.1.grown hb5
       have hr2 := hb6.xc.whole
       have hm5l := hm5.len
       have hm5c := hm5.hc
       have ht5 : w5.there g5 (po * 2) 2 := hm5.blk.there _ _ (by omega)
       have hkp : Kept (· = g5) w5 (w5.setCells g5 (po * 2) [.slice B1 x.key.length d1, .slice B2 x.val.length d2]) := (Kept.refl _ _).setN _ _
       have hg5 := hm5.hB
       have hz2 := HD.out.1.xc.lt
       have hr1 := (hkp.blk hb6.of (by omega)).whole
       have hbf : Below w.heap.size w (w5.setCells g5 (po * 2) [.slice B1 x.key.length d1, .slice B2 x.val.length d2]) := below_setCells _ (by omega) _ _ _ hb6.bl
       have hbs := hm5.blk.setCells [Value.slice B1 x.key.length d1, .slice B2 x.val.length d2] (po * 2) _ (by simp only [List.length_cons, List.length_nil]; omega)
       have hxc := HA.out.2.2.2.1.grown hbf
       have hpat : PairsAt (w5.setCells g5 (po * 2) [.slice B1 x.key.length d1, .slice B2 x.val.length d2]) (L.take po ++ ([[Value.slice B1 x.key.length d1, Value.slice B2 x.val.length d2]] ++ L.drop (po + 1))) (Hm.ins n x m) := by
         rw [HA.out.2.2.2.2.2.2.2.1]
         exact ((HA.out.2.2.1.at_.grown hbf).take _).append ((PairsAt.one hxc).append ((HA.out.2.2.1.at_.grown hbf).drop _))
       have hrd : Rd (w5.setCells g5 (po * 2) [.slice B1 x.key.length d1, .slice B2 x.val.length d2]) (some ⟨g5, 0, none⟩) (L.take po ++ ([[Value.slice B1 x.key.length d1, Value.slice B2 x.val.length d2]] ++ L.drop (po + 1))).flatten := by
         have e1 := splice_take cur5 [Value.slice B1 x.key.length d1, Value.slice B2 x.val.length d2] (po * 2) (m.length * 2) (by simp only [List.length_cons, List.length_nil]; omega) (by omega)
         rw [hm5.hx, flatten_take 2 _ _ HA.out.2.2.1.at_.two, show po * 2 + [Value.slice B1 x.key.length d1, Value.slice B2 x.val.length d2].length = (po + 1) * 2 by simp only [List.length_cons, List.length_nil]; omega, flatten_drop 2 _ _ HA.out.2.2.1.at_.two] at e1
         have e2 : (L.take po ++ ([[Value.slice B1 x.key.length d1, Value.slice B2 x.val.length d2]] ++ L.drop (po + 1))).flatten = (L.take po).flatten ++ ([Value.slice B1 x.key.length d1, Value.slice B2 x.val.length d2] ++ (L.drop (po + 1)).flatten) := by simp
         rw [e2, ← e1]
         exact Rd.of _ (hbs.takes _)
       have hbd : Bnd (Hm.ins n x m) := ⟨by rw [HD.out.2.2]; exact hml, fun p hp => by
         rcases Hm.mem_ins hp with rfl | hp
         · exact HA.out.2.2.2.2.2.2.1
         · exact HA.out.2.2.2.2.2.1.2 p hp⟩
       have hpour := pour_any b n h1 h2 K hklen (some ⟨g5, 0, none⟩) c5 _ (Hm.ins n x m) _ (HA.out.1.below hbf) (HA.out.2.1.grown hbf) hrd hpat hbd
       rw [HD.out.2.2] at hpour
       have HY := hid (And.intro hpour (And.intro hbf hxc.oc))
       have HY2 := hid (And.intro hrd (And.intro hpat (And.intro hm5c (hbs.tyd (o := 0)))))
       clear hb6 hm5l hm5c hkp hg5 hz2 hbf hbs hxc hpat hrd hbd hpour hm5 ho5 hb5)
    | (go_at_call 161
       refine HY.out.1.mono ?_
       rintro e w7 ⟨pb, rfl, hb7, hk7⟩
       have HZ := hid (And.intro hb7 hk7); clear hb7 hk7))
  go_ret
  refine ⟨pb, rfl, gro HY.out.2.1 HZ.out.1, bk_poured (by rw [HD.out.2.2]; exact HZ.out.2) HZ.out.1 HY2.out.1 HY2.out.2.1 (by rw [HD.out.2.2]; exact HY2.out.2.2.1) ?_ hklen ?_ HY2.out.2.2.2⟩
  · intro p hp
    rcases Hm.mem_ins hp with rfl | hp
    · exact HK.out
    · exact HA.out.2.2.2.2.2.2.2.2.1 p hp
  · intro e
    have := Hm.x_mem_ins n x m
    rw [e] at this; cases this
end Go.Proofs.YtpnakfeafekneaaGreatDoor

namespace Go.Proofs.YtpnakfeafekneaaGreatDoor
open Go.RowKit
set_option maxHeartbeats 1000000 in
set_option maxRecDepth 100000 in
theorem put_bk_new [Inhabited LoT] (b n : Nat) (h1 : 1 ≤ n) (h2 : n ≤ 32) (t pa : Nat) (m : List Pr) (x : Pr) (A : Option Addr) (c : Nat) (L : List (List Value)) (xc : List Value) (w : World) (hw : Words w) (hm : MapW w b n) (ha : BkAt w n pa m (Dg.key n x.key) A c L) (hx : PairAt w xc x) (hs : Hm.Srt n m) (hbd : Bnd m)
    (hxs : x.key.length ≤ 64 ∧ x.val.length ≤ 256) (hf : fnd m (pos m x.key) x.key = false) (hml1 : m.length + 1 < 1048576) :
    Calls Tryz.prog 116 #[ptr b, nbk pa, .int .i64 t, dg (Dg.key n x.key), .agg xc.toArray] w fun e w' => ∃ p, e = .returned (nbk p) ∧ Below w.heap.size w w' ∧ Bk w' n (nbk p) (Hm.ins n x m) := by
  have hin := ins_new hs ha.key rfl hf
  have hsp := spot (key := x.key) hs ha.key
  have hplt : pos m x.key ≤ m.length := hsp.le
  have hkey := ha.key
  have hklen : (Dg.key n x.key).length = 32 := ha.len
  have hcf := fun w' (hb : Below w.heap.size w w') Ak ck (hk : Rd w' Ak (x.key.map b8)) => find_at n A Ak c ck L m (Dg.key n x.key) x.key w' (ha.rd.grown hb) (ha.at_.grown hb) hk hbd hs ha.key
  rw [hf] at hcf
  generalize hK : Dg.key n x.key = K at ha hcf hklen hkey
  have HK := hid hK
  generalize hpo : pos m x.key = po at hin hsp hplt hcf
  have HL := hid (show (K.map b8).length = 32 by simp [hklen])
  have hneq := run_neq_bytes (P := Tryz.prog) Tryz.underlying40 Tryz.underlying5 (by kernel_rfl) K K hklen hklen
  rw [show (!decide (K = K)) = false by simp] at hneq
  have hxl := hx.len
  obtain ⟨B1, d1, B2, d2, hxe, hx2⟩ := hx
  have hx : PairAt w xc x := ⟨B1, d1, B2, d2, hxe, hx2⟩
  have HA := hid (And.intro hw (And.intro hm (And.intro ha (And.intro hx (And.intro hs (And.intro hbd (And.intro hxs (And.intro hin (And.intro hkey hx2)))))))))
  have HX := hid (And.intro hxl hcf)
  have HX2 := hid (show ∀ y ∈ [xc], y.length = 2 from fun y hy => by rw [List.mem_singleton] at hy; subst hy; exact hxl)
  have h0 : 0 < m.length := List.length_pos_iff.2 ha.ne
  have hml := hbd.1
  clear hw hm ha hx hs hxs hK hx2 hxl hcf hbd hin hsp hkey hf hpo
  have hbx := Boxes.new w K xc
  have HBX := hid hbx
  clear hbx
  subst hxe
  go_enter Tryz.func116, Tryz.ntmps116
  go_upto_region 1 with fail
  refine wp_world (fun w' => Boxes w w' K _) HBX.out ?_
  rintro w1 hb1
  have HB := hid hb1
  clear hb1 HBX
  go_upto_region 4 with fail
  have hq1 := range_fut (HB.out.of.whole)
  have hq2 := range_fut (range_grown (bk_of HA.out.2.2.1.blk) HB.out.bl)
  have HQ := hid (And.intro hq1 hq2)
  clear hq1 hq2
  refine wp_region_fut (by kernel_rfl) (by kernel_rfl) ?_
  repeat (first
    | (go_big_quiet_want; (with_reducible refine quiet_ld 40 (.tmp 25) pa 0 _ 32 _ HL.out HQ.out.2 Tryz.underlying40 rfl (by kernel_rfl) ?_ ?_ ?_); rfl; rfl; simp only [Act.put, List.setIfInBounds_toArray, List.set_cons_zero, List.set_cons_succ]; go_big_quiet_on)
    | (go_big_quiet_want; (with_reducible refine quiet_ld 40 (.tmp 8) w.heap.size 0 _ 32 _ HL.out HQ.out.1 Tryz.underlying40 rfl (by kernel_rfl) ?_ ?_ ?_); rfl; rfl; simp only [Act.put, List.setIfInBounds_toArray, List.set_cons_zero, List.set_cons_succ]; go_big_quiet_on)
    | go_big_quiet_step (fail))
  refine wpQuiet_nil ?_
  rintro _ ⟨s, rfl⟩
  have hb2 := HB.out.grown s.below
  have HC := hid hb2
  clear hb2 HQ hneq
  go_upto_region 6 with fail
  have q1 := Fut.cell (show s.v.cell? ⟨pa, 32, none⟩ = some (.slice A m.length c) from bk_slice (HA.out.2.2.1.blk.grown HC.out.bl) hklen)
  have q2 := Fut.cell (show s.v.cell? ⟨w.heap.size + 1, 0, none⟩ = some (.slice B1 x.key.length d1) from by rw [HC.out.xc.cell]; rfl)
  have hcf : ∀ s2 : Fut s.v, Calls Tryz.prog 94 #[.slice A m.length c, .slice B1 x.key.length d1] s2.v fun e w'' => e = .returned (.tuple #[.int .i64 po, .bool false]) ∧ ∃ s' : Fut s.v, w'' = s'.v := fun s2 => Calls.fut_of (HX.out.2 s2.v (gro HC.out.bl s2.below) B1 d1 ((HA.out.2.2.2.2.2.2.2.2.2.1.grown HC.out.bl).grown s2.below))
  have HQ := hid hcf
  clear hcf
  refine wp_region_fut (by kernel_rfl) (by kernel_rfl) ?_
  repeat (go_big_quiet_step (with_reducible exact HQ.out _))
  refine wpQuiet_nil ?_
  rintro _ ⟨s2, rfl⟩
  clear q1 q2 HQ
  have hb3 := HC.out.grown s2.below
  have k32 : s2.v.cell? ⟨pa, 32, none⟩ = some (.slice A m.length c) := bk_slice (HA.out.2.2.1.blk.grown hb3.bl) hklen
  have hcl := clone_pairs A m.length c L.flatten s2.v HA.out.2.2.1.at_.flat (HA.out.2.2.1.rd.grown hb3.bl) HA.out.2.2.1.at_.oc (by omega)
  have hpi : (0 : Int) ≤ (po : Int) ∧ (po : Int) ≤ (m.length : Int) := by omega
  have hlen : (Hm.ins n x m).length = m.length + 1 := by rw [HA.out.2.2.2.2.2.2.2.1]; simp; omega
  have HD := hid (And.intro hb3 (And.intro hcl hlen))
  clear hb3 hcl hlen HB HC
  go_wp2_with (first
    | ((with_reducible refine ld_mid 40 (.tmp 8) w.heap.size 0 _ 32 _ HL.out hr1 Tryz.underlying40 rfl (by kernel_rfl) ?_ ?_ ?_ ?_); rfl; rfl; rfl)
    | ((with_reducible refine ld_mid 166 (.tmp 9) (w.heap.size + 1) 0 _ 2 _ HX.out.1 hr2 Tryz.underlying166 rfl (by kernel_rfl) ?_ ?_ ?_ ?_); rfl; rfl; rfl)
    | ((with_reducible refine bs_own 110 166 1 #[(0, .tmp 60)] [[.slice B1 x.key.length d1, .slice B2 x.val.length d2]] 2 (by decide) HX2.out rfl (by decide) (by decide) Tryz.underlying110 (by kernel_rfl) ?_ ?_ ?_ ?_); rfl; rfl; rfl)
    | (go_at_call 162
       refine HD.out.2.1.mono ?_
       rintro e w5 ⟨v5, rfl, hb5, ho5, -⟩
       have hb6 := HD.out.1.grown hb5
       have hr2 := hb6.xc.whole
       have hbx := below_box w5 (.cells #[.slice B1 x.key.length d1, .slice B2 x.val.length d2] 166)
       have hxc := HA.out.2.2.2.1.grown hb6.bl
       have hic := insert_pairs s2.v.heap.size m.length po w5.heap.size v5 L.flatten [.slice B1 x.key.length d1, .slice B2 x.val.length d2] _ (own_grown ho5 hbx) (Blk.new w5 _ _) rfl hxc.oc HA.out.2.2.1.at_.oc hml h0 hplt (fun e => by have := (ho5.lt _ e).2; omega) (Nat.le_trans hb5.size hbx.size)
       have HY := hid (And.intro hic (And.intro (hb6.grown hbx) hb5.size))
       clear hb6 hbx hxc hic ho5 hb5)
    | (go_at_call 163
       refine HY.out.1.mono ?_
       rintro e w7 ⟨A7, c7, rfl, hb7, hrd7, hc7, -, -, hty7⟩
       have hz2 := HD.out.1.xc.lt
       have hr1 := (HY.out.2.1.of.below hb7 (by omega)).whole
       have hbf : Below w.heap.size w w7 := HY.out.2.1.bl.trans (hb7.mono HD.out.1.bl.size)
       have hxc := HA.out.2.2.2.1.grown hbf
       have hpat : PairsAt w7 (L.take po ++ ([[Value.slice B1 x.key.length d1, Value.slice B2 x.val.length d2]] ++ L.drop po)) (Hm.ins n x m) := by
         rw [HA.out.2.2.2.2.2.2.2.1]
         exact ((HA.out.2.2.1.at_.grown hbf).take _).append ((PairsAt.one hxc).append ((HA.out.2.2.1.at_.grown hbf).drop _))
       have hrd : Rd w7 A7 (L.take po ++ ([[Value.slice B1 x.key.length d1, Value.slice B2 x.val.length d2]] ++ L.drop po)).flatten := by
         rw [flatten_take 2 _ _ HA.out.2.2.1.at_.two, flatten_drop 2 _ _ HA.out.2.2.1.at_.two] at hrd7
         have e2 : (L.take po ++ ([[Value.slice B1 x.key.length d1, Value.slice B2 x.val.length d2]] ++ L.drop po)).flatten = (L.take po).flatten ++ ([Value.slice B1 x.key.length d1, Value.slice B2 x.val.length d2] ++ (L.drop po).flatten) := by simp
         rw [e2]
         exact hrd7
       have hbd : Bnd (Hm.ins n x m) := ⟨by rw [HD.out.2.2]; exact hml1, fun p hp => by
         rcases Hm.mem_ins hp with rfl | hp
         · exact HA.out.2.2.2.2.2.2.1
         · exact HA.out.2.2.2.2.2.1.2 p hp⟩
       have hpour := pour_any b n h1 h2 K hklen A7 c7 _ (Hm.ins n x m) _ (HA.out.1.below hbf) (HA.out.2.1.grown hbf) hrd hpat hbd
       rw [HD.out.2.2] at hpour
       have HZ := hid (And.intro hpour (And.intro hbf (And.intro hrd (And.intro hpat (And.intro hc7 hty7)))))
       clear hz2 hbf hxc hpat hrd hbd hpour hc7 hb7 hrd7 hty7)
    | (go_at_call 161
       refine HZ.out.1.mono ?_
       rintro e w8 ⟨pb, rfl, hb8, hk8⟩
       have HW := hid (And.intro hb8 hk8); clear hb8 hk8))
  go_ret
  refine ⟨pb, rfl, gro HZ.out.2.1 HW.out.1, bk_poured (by rw [HD.out.2.2]; exact HW.out.2) HW.out.1 HZ.out.2.2.1 HZ.out.2.2.2.1 (by rw [HD.out.2.2]; exact HZ.out.2.2.2.2.1) ?_ hklen ?_ HZ.out.2.2.2.2.2⟩
  · intro p hp
    rcases Hm.mem_ins hp with rfl | hp
    · exact HK.out
    · exact HA.out.2.2.2.2.2.2.2.2.1 p hp
  · intro e
    have := Hm.x_mem_ins n x m
    rw [e] at this; cases this
end Go.Proofs.YtpnakfeafekneaaGreatDoor

namespace Go.Proofs.YtpnakfeafekneaaGreatDoor
open Go.RowKit
structure Own2 (P : Program) (ops : Array Oper) (opsF : Value → Array Oper) (md : Region.Mode) (k n g0 : Nat) (vs : List (Nat × Tmp)) (o : Oper) (A0 : Act) (Q' : Exit → Act → World → Prop) (w : World) (X : Value → Array Bool → Prop) (f : FuncId) (args : Array Value) (U : Value → Prop) (u0 : Value) (Φ : Value → World → Prop) : Prop where
  lk : ∀ u, LikeOps ops (opsF u) k o { o with op := .move (.const u) }
  ov_ : ∀ p ∈ vs, ∃ ov, ops[p.1]? = some ov ∧ ov.dst = some p.2
  hu0 : U u0
  run : ∀ (a : Act) (w' : World), (∀ p ∈ vs, a.tmps[p.2]? = A0.tmps[p.2]?) → (execOp a.eval o).run P w' = .ok (.enter f args) w'
  call : ∀ w', Below w.heap.size w w' → Calls P f args w' fun e w'' => ∃ u, e = .returned u ∧ U u ∧ Below w'.heap.size w' w'' ∧ Φ u w''
  stab : ∀ u w1 w2, Below w1.heap.size w1 w2 → Φ u w1 → Φ u w2
  kn : k < n
  vk : ∀ p ∈ vs, p.1 ≠ k
  wait : ∀ p ∈ vs, ∃ e ∈ o.after, Region.binds md e = true ∧ e.on = p.1
  dist : ∀ (i j : Nat) (oi oj : Oper) (t : Tmp), ops[i]? = some oi → ops[j]? = some oj → j ≠ i → oi.dst = some t → oj.dst ≠ some t
  done : ∀ u listed, X u listed → ∀ i, i < n → listed.getD i true = true
  last : ∀ (u : Value) (listed : Array Bool) (w' : World), U u → Below w.heap.size w w' → Φ u w' → X u listed → wpAny P md ops Q' g0 listed (A0.put o.dst u) w'
theorem own2_before {P : Program} {ops : Array Oper} {opsF : Value → Array Oper} {md : Region.Mode} {k n g0 : Nat} {vs : List (Nat × Tmp)} {o : Oper} {A0 : Act} {Q' : Exit → Act → World → Prop} {w : World} {X : Value → Array Bool → Prop} {fn : FuncId} {args : Array Value} {U : Value → Prop} {u0 : Value} {Φ : Value → World → Prop}
    (F : Own2 P ops opsF md k n g0 vs o A0 Q' w X fn args U u0 Φ) :
    ∀ (f : Nat) (listed : Array Bool) (a : Act) (w' : World), listed.getD k true = false → Below w.heap.size w w' →
      (∀ (w1 : World) (u : Value), U u → Below w.heap.size w w1 → HeadU P md opsF n X A0 o w1 u f listed a) → wpAny P md ops Q' (f + g0) listed a w'
  | 0, listed, a, w', hk, _, h => by
    have := F.done _ _ (h w u0 F.hu0 (Below.refl _ _)).1 k F.kn
    rw [hk] at this; cases this
  | f + 1, listed, a, w', hk, hb, h => by
    rw [show f + 1 + g0 = (f + g0) + 1 by omega]
    have h0 := h w' u0 F.hu0 hb
    have h0' := h0
    unfold HeadU at h0
    rw [anyHead, (F.lk _).ready] at h0
    refine ⟨fun e => absurd e h0.1, fun i hi => ?_⟩
    by_cases hik : i = k
    · subst hik
      have hvl : ∀ p ∈ vs, listed.getD p.1 true = true := by
        intro p hp
        obtain ⟨_, o2, ho2, hall⟩ := mem_ready.1 hi
        rw [(F.lk undef).at0] at ho2; cases ho2
        obtain ⟨e, he, hbd, hon⟩ := F.wait p hp
        have := hall e he hbd
        rw [hon] at this
        rcases Nat.lt_or_ge p.1 listed.size with hlt | hge
        · simp [hlt] at this ⊢; exact this
        · simp [Array.getElem?_eq_none hge] at this
      have s2 : ∀ p ∈ vs, a.tmps[p.2]? = A0.tmps[p.2]? := by
        intro p hp
        obtain ⟨ov, hov, hdv⟩ := F.ov_ p hp
        have s2 := slot_like (F.lk u0) F.dist hov hdv h0' (hvl p hp)
        rw [put_get _ _ _ _ (F.dist p.1 i ov o p.2 hov (F.lk undef).at0 (Ne.symm (F.vk p hp)) hdv)] at s2
        exact s2.symm
      have hrun := F.run a w' s2
      unfold wpOp
      rw [(F.lk undef).at0]
      have hwant : Region.wanted o (Go.yielded ops a.tmps) = true := by unfold Region.wanted; rw [(F.lk undef).guard]
      simp only [hwant, if_true]
      refine .inl ?_
      unfold Oper.wp
      rw [hrun]
      refine (F.call w' hb).mono ?_
      rintro e w2 ⟨u, rfl, hU, hb2, hΦ⟩
      have hbw : Below w.heap.size w w2 := hb.trans (hb2.mono hb.size)
      have h1 := h w2 u hU hbw
      unfold HeadU at h1
      rw [anyHead, (F.lk _).ready] at h1
      obtain ⟨v1, hy, hK⟩ := yieldsIn_of_qOp (F.lk u).at1 (h1.2 i hi).2
      have hv : v1 = u := by
        rcases hy with ⟨_, hq⟩ | ⟨hw, _⟩
        · have := hq _ (⟨Fut.here _, rfl⟩ : FC w2 w2)
          unfold Oper.quietAt at this
          rw [BigFrame.run_move _ rfl] at this
          exact this.2.symm
        · unfold Region.wanted at hw; rw [(F.lk u).guard'] at hw; cases hw
      subst hv
      refine any_after (F.lk v1) (C := FC w2) (g := g0) (n := n) (L := fun listed a => X v1 listed ∧ a = A0.put o.dst v1) ?_ f _ _ _ ⟨Fut.here _, rfl⟩ (getD_set_self hk) hK
      rintro l2 a2 w3 ⟨s, rfl⟩ ⟨hX, rfl⟩
      exact F.last _ _ _ hU (hbw.trans (s.below.mono hbw.size)) (F.stab _ _ _ s.below hΦ) hX
    · obtain ⟨hil, oi, hoi, _⟩ := mem_ready.1 hi
      have hoi' : ∀ u, (opsF u)[i]? = some oi := fun u => by rw [(F.lk u).off i hik]; exact hoi
      obtain ⟨vv, hy, hK⟩ := yieldsIn_of_qOp (hoi' _) (h0.2 i hi).2
      have hset : ∀ u (x : Value) (w1 : World), HeadU P md opsF n X A0 o w1 u f (listed.setIfInBounds i true) (a.put oi.dst x) → ∀ t, oi.dst = some t → A0.tmps[t]? = (a.put oi.dst x).tmps[t]? := by
        intro u x w1 hh t ht
        rw [← slot_like (F.lk u) F.dist hoi ht hh (getD_set_self hil)]
        exact (put_get _ _ _ _ (F.dist i k oi o t hoi (F.lk u).at0 (Ne.symm hik) ht)).symm
      have hnext : ∀ w1 u, U u → Below w.heap.size w w1 → HeadU P md opsF n X A0 o w1 u f (listed.setIfInBounds i true) (a.put oi.dst vv) := by
        intro w1 u hU hb1
        have h1 := h w1 u hU hb1
        unfold HeadU at h1
        rw [anyHead, (F.lk _).ready] at h1
        obtain ⟨v1, _, hK1⟩ := yieldsIn_of_qOp (hoi' u) (h1.2 i hi).2
        unfold HeadU
        rw [put_eq a oi.dst vv v1 (fun t ht => by rw [← hset _ _ _ hK t ht, ← hset _ _ _ hK1 t ht])]
        exact hK1
      have hq : qOp P ops (FC w') i (fun a' => a' = a.put oi.dst vv) a := by
        refine YieldsIn.qOp hoi ?_ rfl
        unfold YieldsIn at hy ⊢
        rw [(F.lk _).yielded] at hy
        exact hy
      refine wpOp_of_qOp (C := FC w') ⟨Fut.here _, rfl⟩ ?_ hq
      rintro a' w2 ⟨s, rfl⟩ rfl
      exact own2_before F f _ _ _ (by rw [getD_set_ne true hik]; exact hk) (hb.trans (s.below.mono hb.size)) hnext
theorem wp_region_own2 {P : Program} {id : Nat} {Q : Exit → Act → World → Prop} {a : Act} {w : World} {l : List Oper} (n k : Nat) (vs : List (Nat × Tmp)) (o : Oper) (f : FuncId) (args : Array Value) (U : Value → Prop) (u0 : Value) (Φ : Value → World → Prop) (A0 : Act)
    (hm : P.follows .mixedOrders = true) (hk : l[k]? = some o) (hv : (vs.all fun p => ((l[p.1]?).bind (·.dst) == some p.2) && (p.1 != k) && (o.after.any fun e => Region.binds .any e && e.on == p.1)) = true) (hu0 : U u0) (hg : o.guard = none) (hkn : k < n)
    (hB : ∀ u, Region.lexTailB .any (l.set k { o with op := .move (.const u) }).toArray n = true)
    (hd : ((List.range l.length).all fun i => (List.range l.length).all fun j => i == j || (match (l[i]?).bind (·.dst), (l[j]?).bind (·.dst) with | some a, some b => a != b | _, _ => true)) = true)
    (hrun : ∀ (a : Act) (w' : World), (∀ p ∈ vs, a.tmps[p.2]? = A0.tmps[p.2]?) → (execOp a.eval o).run P w' = .ok (.enter f args) w')
    (hcall : ∀ w', Below w.heap.size w w' → Calls P f args w' fun e w'' => ∃ u, e = .returned u ∧ U u ∧ Below w'.heap.size w' w'' ∧ Φ u w'')
    (hst : ∀ u w1 w2, Below w1.heap.size w1 w2 → Φ u w1 → Φ u w2)
    (h : ∀ (w1 : World) (u : Value), U u → Below w.heap.size w w1 → wpQuiet P (l.set k { o with op := .move (.const u) }).toArray (fun w' => ∃ s : Fut w1, w' = s.v) (fun a' => a' = A0.put o.dst u) ((l.set k { o with op := .move (.const u) }).take n) a)
    (ht : ∀ (u : Value) (w' : World), U u → Below w.heap.size w w' → Φ u w' → wpList P l.toArray Q (l.drop n) (A0.put o.dst u) w') : (Code.region id l.toArray true).wp P Q a w := by
  have lk : ∀ u : Value, LikeOps l.toArray (l.set k { o with op := .move (.const u) }).toArray k o { o with op := .move (.const u) } := fun u => like_set u hk hg
  have hB' := fun u => hB u
  simp only [Region.lexTailB, Bool.and_eq_true, decide_eq_true_eq] at hB'
  have hn : n < l.length := by have := (hB' undef).1.1.1.2; simpa using this
  have hdl : (l.drop n).length = l.length - n := by simp
  refine wp_region_any hm ?_
  have F : Own2 P l.toArray (fun u => (l.set k { o with op := .move (.const u) }).toArray) .any k n (l.length - n) vs o A0 Q w (fun u listed => Region.seqB .any (l.set k { o with op := .move (.const u) }).toArray (l.length - n) n listed = true ∧ ∀ i, i < n → listed.getD i true = true) f args U u0 Φ := by
    refine ⟨lk, ?_, hu0, hrun, hcall, hst, hkn, ?_, ?_, distinct_of hd, fun u listed hX => hX.2, ?_⟩
    · intro p hp
      have h1 := (List.all_eq_true.1 hv) p hp
      simp only [Bool.and_eq_true, beq_iff_eq, bne_iff_ne] at h1
      cases hl : l[p.1]? with
      | none => rw [hl] at h1; simp at h1
      | some ov => exact ⟨ov, by simpa using hl, by rw [hl] at h1; exact h1.1.1⟩
    · intro p hp
      have h1 := (List.all_eq_true.1 hv) p hp
      simp only [Bool.and_eq_true, beq_iff_eq, bne_iff_ne] at h1
      exact h1.1.2
    · intro p hp
      have h1 := (List.all_eq_true.1 hv) p hp
      simp only [Bool.and_eq_true, beq_iff_eq, bne_iff_ne] at h1
      obtain ⟨e, he, h2⟩ := Array.any_eq_true'.1 h1.2
      simp only [Bool.and_eq_true, beq_iff_eq] at h2
      exact ⟨e, he, h2.1, h2.2⟩
    · intro u listed w' hU hb hΦ hX
      have hs := hX.1
      rw [(lk u).seqB] at hs
      have := wpAny_of_seq (md := .any) (ops := l.toArray) (Q' := Q) (l.drop n) n listed (A0.put o.dst u) w' (fun j => by simp [List.getElem?_drop]) (by rw [hdl]; exact hs) (ht u w' hU hb hΦ)
      rwa [hdl] at this
  have hfin : ∀ (w1 : World) (u : Value), U u → Below w.heap.size w w1 → HeadU P .any (fun u => (l.set k { o with op := .move (.const u) }).toArray) n (fun u listed => Region.seqB .any (l.set k { o with op := .move (.const u) }).toArray (l.length - n) n listed = true ∧ ∀ i, i < n → listed.getD i true = true) A0 o w1 u n (Array.replicate l.length false) a := by
    intro w1 u hU hb1
    obtain ⟨⟨⟨⟨hsel, hn'⟩, hs⟩, hc⟩, hlex⟩ := hB' u
    have hsz : (l.set k { o with op := .move (.const u) }).toArray.size = l.length := by simp
    rw [hsz] at hlex hn'
    have htl : ((l.set k { o with op := .move (.const u) }).take n).length = n := by simp; omega
    have inv0 : HeadInv .any (l.set k { o with op := .move (.const u) }).toArray n (Array.replicate l.length false) :=
      ⟨by simp, fun j oj _ hl => (by rw [getD_replicate_false] at hl; cases hl), fun t _ ht' => getD_in (by rw [hsz] at ht'; simpa using ht') (getD_replicate_false _ _)⟩
    have H := anyHead_lex (P := P) (md := .any) (C := FC w1) (g := l.length - n) hsel hs hc (by rw [hsz]; exact hn') ((l.set k { o with op := .move (.const u) }).take n) 0 _ a (fun j hj => by
      have hj' : j < n := by rw [htl] at hj; exact hj
      simp [hj']) (by simpa using htl) inv0 (by rw [htl]; exact hlex) (h w1 u hU hb1)
    rw [htl] at H
    refine anyHead_inv ?_ n _ _ inv0 H
    rintro listed a' ⟨h1, h2⟩ hinv
    refine ⟨⟨h1, fun i hi => ?_⟩, h2⟩
    rcases hli : listed.getD i true with _ | _
    · exfalso
      have hready : n ∈ Region.ready .any (l.set k { o with op := .move (.const u) }).toArray listed := by
        obtain ⟨q, hq⟩ : ∃ q, l.length - n = q + 1 := ⟨l.length - n - 1, by omega⟩
        rw [hq] at h1
        simp only [Region.seqB, Bool.and_eq_true, decide_eq_true_eq] at h1
        rw [h1.1]; simp
      exact tail_waits hs hc (by rw [hsz]; exact hn') hinv _ i rfl hi hli n (Nat.le_refl _) hready
    · rfl
  have := own2_before F n (Array.replicate l.length false) a { w with drawn := w.drawn + 1 } (getD_in (by simp; have := (List.getElem?_eq_some_iff.1 hk).1; omega) (getD_replicate_false _ _)) (Below.refl _ _).drew hfin
  rw [show n + (l.length - n) = l.toArray.size by simp; omega] at this
  simpa using this
abbrev Act.puts (ps : List (Tmp × Value)) (a : Act) : Act := ps.foldl (fun a p => a.put (some p.1) p.2) a
theorem wp_region_own3 {P : Program} {id : Nat} {Q : Exit → Act → World → Prop} {a : Act} {w : World} {l : List Oper} (n k : Nat) (vs : List (Nat × Tmp)) (xs : List Value) (o : Oper) (f : FuncId) (args : Array Value) (U : Value → Prop) (u0 : Value) (Φ : Value → World → Prop) (ps : List (Tmp × Value))
    (hm : P.follows .mixedOrders = true) (hk : l[k]? = some o) (hv : (vs.all fun p => ((l[p.1]?).bind (·.dst) == some p.2) && (p.1 != k) && (o.after.any fun e => Region.binds .any e && e.on == p.1)) = true) (hu0 : U u0) (hg : o.guard = none) (hkn : k < n)
    (hB : ∀ u, Region.lexTailB .any (l.set k { o with op := .move (.const u) }).toArray n = true)
    (hd : ((List.range l.length).all fun i => (List.range l.length).all fun j => i == j || (match (l[i]?).bind (·.dst), (l[j]?).bind (·.dst) with | some a, some b => a != b | _, _ => true)) = true)
    (hxs : (vs.map fun p => (Act.puts ps a).tmps[p.2]?) = xs.map some)
    (hrun : ∀ (a : Act) (w' : World), (vs.map fun p => a.tmps[p.2]?) = xs.map some → (execOp a.eval o).run P w' = .ok (.enter f args) w')
    (hcall : ∀ w', Below w.heap.size w w' → Calls P f args w' fun e w'' => ∃ u, e = .returned u ∧ U u ∧ Below w'.heap.size w' w'' ∧ Φ u w'')
    (hst : ∀ u w1 w2, Below w1.heap.size w1 w2 → Φ u w1 → Φ u w2)
    (h : ∀ (w1 : World) (u : Value), U u → Below w.heap.size w w1 → wpQuiet P (l.set k { o with op := .move (.const u) }).toArray (fun w' => ∃ s : Fut w1, w' = s.v) (fun a' => a' = (Act.puts ps a).put o.dst u) ((l.set k { o with op := .move (.const u) }).take n) a)
    (ht : ∀ (u : Value) (w' : World), U u → Below w.heap.size w w' → Φ u w' → wpList P l.toArray Q (l.drop n) ((Act.puts ps a).put o.dst u) w') : (Code.region id l.toArray true).wp P Q a w :=
  wp_region_own2 n k vs o f args U u0 Φ (Act.puts ps a) hm hk hv hu0 hg hkn hB hd (fun a' w' ha => hrun a' w' (by
    rw [← hxs]
    exact List.map_congr_left fun p hp => ha p hp)) hcall hst h ht
end Go.Proofs.YtpnakfeafekneaaGreatDoor
