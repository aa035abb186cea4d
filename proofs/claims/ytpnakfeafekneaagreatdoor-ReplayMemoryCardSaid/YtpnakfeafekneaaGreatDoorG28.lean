/- Part 28 of this proof: PJ, PK, PL, V0. -/
import Derived.Test.YtpnakfeafekneaaGreatDoorG27
set_option linter.unusedSimpArgs false
set_option linter.unusedVariables false
namespace Go.Proofs.YtpnakfeafekneaaGreatDoor
open Go.RowKit
set_option maxHeartbeats 2000000 in
set_option maxRecDepth 100000 in
theorem drop_br_gone [Inhabited LoT] (b n : Nat) (h1 : 1 ≤ n) (h2 : n ≤ 32) (f t pb : Nat) (hft : f + 1 + t = 2 * n) (m : List Pr) (key : List UInt8) (A : Option Addr) (c : Nat) (z : Int) (val : Nat → Value) (Ak : Option Addr) (ck : Nat) (w : World) (hw : Words w) (hm : MapW w b n) (ha : BrAt AllS w n f t pb m A c z val) (hk : Rd w Ak (key.map b8)) (hs : Hm.Srt n m)
    (hh : Hm.has n t m (Dg.digit (Dg.key n key) t) = true)
    (hkn : Hm.hasKey key m = true) (hc2e : Hm.child n t (Dg.digit (Dg.key n key) t) (Hm.del key m) = [])
    (hrec : ∀ w', Below w.heap.size w w' → Calls Tryz.prog 118 #[ptr b, val (Dg.digit (Dg.key n key) t), .int .i64 ((t : Int) + 1), dg (Dg.key n key), .slice Ak key.length ck] w' fun e w'' => e = .returned (.tuple #[.nilIface, .bool true]) ∧ Below w'.heap.size w' w'') :
    Calls Tryz.prog 118 #[ptr b, nbr pb, .int .i64 t, dg (Dg.key n key), .slice Ak key.length ck] w fun e w' => ∃ v', e = .returned (.tuple #[v', .bool (Hm.hasKey key m)]) ∧ Below w.heap.size w w' ∧ Tp AllS w' n (f + 1) t v' (Hm.del key m) := by
  rw [hkn]
  clear hkn
  have hkl := Dg.sum_length n (Dg.keyIn key) h2
  have hklen : (Dg.key n key).length = 32 := hkl
  have hkf : Dg.form n (Dg.key n key) = true := Dg.form_sum _ _ h2
  have hdl := Dg.digit_lt (Dg.key n key) t
  have hrk : Nib.rank (Hm.bm n t m) (Dg.digit (Dg.key n key) t) = (Hm.lo (Hm.has n t m) (Dg.digit (Dg.key n key) t)).length := Hm.bmf_rank _ _ hdl
  have hhs : Nib.has (Hm.bm n t m) (Dg.digit (Dg.key n key) t) = true := by unfold Hm.bm; rw [Hm.bmf_has _ _ hdl]; exact hh
  have hbm := Hm.bm_lt n t m
  have hdo := Hm.digs_old n t m _ hdl
  have hdd := fun w' (hb : Below w.heap.size w w') => hdigit_ok b n h1 h2 _ hklen hkf t (by omega) w' (hm.grown hb)
  generalize hK : Dg.key n key = K at hklen hkf hdd hdl hrk hhs hdo hh hrec
  have HK := hid hK
  generalize hdv : Dg.digit K t = d at hdl hrk hhs hdo hdd hh hrec
  have HDV := hid hdv
  generalize hr : (Hm.lo (Hm.has n t m) d).length = r at hrk
  have hd16 : (Hm.digs n t m).length ≤ 16 := Hm.digs_le (Hm.has n t m)
  generalize hq : Hm.bm n t m = q at hbm hhs hrk
  have HL := hid (show (K.map b8).length = 32 by simp [hklen])
  have k0 := ha.blk
  rw [hq] at k0
  generalize hkk : (Hm.digs n t m).length = kk at k0 hd16
  have hrkk : r < kk := by rw [← hkk, hdo, hh]; simp [hr]
  have HREC := hid hrec
  clear hrec
  obtain ⟨N1, hN1⟩ : ∃ N1, N1 = kk - 1 := ⟨_, rfl⟩
  have HN1 := hid hN1
  have hbmd := Hm.bm_del_gone hc2e
  have hlen9 : N1 = (Hm.digs n t (Hm.del key m)).length := by
    have h := Hm.digs_del n t m key
    rw [hc2e] at h
    have h' : Hm.digs n t (Hm.del key m) = Hm.lo (Hm.has n t m) (Dg.digit (Dg.key n key) t) ++ Hm.hi (Hm.has n t m) (Dg.digit (Dg.key n key) t) := by simpa using h
    rw [h', hK, hdv, hN1, ← hkk, hdo, hh]
    simp
  rw [hK, hdv, hq] at hbmd
  rw [hK, hdv] at hc2e
  have HC2 := hid (And.intro hc2e (And.intro hlen9 hbmd))
  clear hc2e hN1 hbmd hlen9
  have HA := hid (And.intro hw (And.intro hm (And.intro ha (And.intro hk (And.intro hs hdd)))))
  have HQ := hid (And.intro hq (And.intro hrk (And.intro hdo (And.intro hr (And.intro hh hkk)))))
  have HBL := hid k0
  clear hw hm ha hk hs hK hkl hdd hq hrk hdo hr k0 hkk hh hdv hkf
  have HBX := hid (Boxes1 w K)
  go_enter Tryz.func118, Tryz.ntmps118
  go_upto_region 1 with fail
  refine wp_world (fun w' => Blk w' w.heap.size 40 (K.map b8) ∧ Below w.heap.size w w') HBX.out ?_
  rintro w1 ⟨hb1, hbl1⟩
  have hr1 := hb1.whole
  have HB := hid (And.intro hb1 hbl1)
  clear hb1 hbl1 HBX
  go_upto_region 16 with (first
    | ((with_reducible refine ld_mid 40 (.tmp 8) w.heap.size 0 _ 32 _ HL.out hr1 Tryz.underlying40 rfl (by kernel_rfl) ?_ ?_ ?_ ?_); rfl; rfl; rfl)
    | (go_at_call 96
       refine (HA.out.2.2.2.2.2 w1 HB.out.2).mono ?_
       rintro e w3 ⟨rfl, hb3⟩
       have k3 := br_bm (HBL.out.grown (gro HB.out.2 hb3))
       have HV := hid hb3; clear hb3)
    | (go_at_call 91
       refine (has_any q d hbm hdl _).mono ?_
       rw [hhs]
       rintro e w6 ⟨rfl, rfl⟩)
    | (go_at_call 90
       refine (rank_any q d hbm hdl _).mono ?_
       rw [HQ.out.2.1]
       rintro e w4 ⟨rfl, hb4⟩
       have HY := hid hb4; clear hb4 k3))
  have hbw4 := gro HB.out.2 (gro HV.out HY.out)
  obtain ⟨gA, oA, rfl, hrA⟩ := HA.out.2.2.1.rd (by intro e; have := congrArg List.length e; rw [List.length_map, HQ.out.2.2.2.2.2] at this; simp at this; omega)
  have hpi : (0 : Int) ≤ (r : Int) ∧ (r : Int) < (kk : Int) := by omega
  have hcA : w.cell? ⟨gA, oA + r, none⟩ = some (val d) := by
    have h := hrA r (val d) (by
      rw [HQ.out.2.2.1, HQ.out.2.2.2.2.1, if_pos rfl, List.map_append, List.getElem?_append_right (by rw [List.length_map, HQ.out.2.2.2.1]; exact Nat.le_refl _), List.length_map, HQ.out.2.2.2.1, Nat.sub_self]
      rfl)
    exact h
  have HS : ∀ w', Below w4.heap.size w4 w' → w'.cell? ⟨pb, 1, none⟩ = some (.slice (some ⟨gA, oA, none⟩) kk c) ∧ w'.cell? ⟨gA, oA + r, none⟩ = some (val d) ∧ w'.rangeAt w.heap.size 0 (K.map b8) := fun w' hb =>
    ⟨br_slice (HBL.out.grown (gro hbw4 hb)), by rw [(gro hbw4 hb).cell (p := ⟨gA, oA + r, none⟩) (World.block_lt_of_cell? w _ hcA)]; exact hcA, (HB.out.1.grown (gro (gro HV.out HY.out) hb)).whole⟩
  have hd : Below w4.heap.size w4 w4.drew := (Below.refl _ _).drew
  have hdr := HREC.out w4.drew (gro hbw4 hd)
  have HT := hid (And.intro HS (And.intro hd (And.intro hdr hbw4)))
  clear HS hd hdr hbw4 hrA hcA hr1 HB HV HY
  have hu := Tryz.underlying40
  have hi : (Tryz.prog.info? 40).map (·.size) = some (K.map b8).length := by rw [HL.out]; exact size_dg
  have hl := HL.out
  have hone := one_b8 K
  have hw1 : IntKind.i64.wrap ((t : Int) + 1) = (t : Int) + 1 := by rw [IntKind.wrap_i64]; omega
  go_region_held3 (fun w' => w'.cell? ⟨pb, 1, none⟩ = some (.slice (some ⟨gA, oA, none⟩) kk c) ∧ w'.cell? ⟨gA, oA + r, none⟩ = some (val d) ∧ w'.rangeAt w.heap.size 0 (K.map b8))
    (first | exact HT.out.1 _ HT.out.2.1 | exact HT.out.1 _ H5.out.1)
    (
      (go_at_call 118
       refine HT.out.2.2.1.mono ?_
       rintro e w5 ⟨rfl, hb5⟩
       have H5 := hid (And.intro (gro HT.out.2.1 hb5) True.intro)
       clear hb5))
  clear hu hi hl hone hw1
  go_upto_region 19 with fail
  have hbw5 := gro HT.out.2.2.2 H5.out.1
  have HS2 : ∀ w', Below w5.heap.size w5 w' → w'.cell? ⟨pb, 1, none⟩ = some (.slice (some ⟨gA, oA, none⟩) kk c) ∧ w'.cell? ⟨pb, 0, none⟩ = some (.int .u16 q) := fun w' hb => ⟨br_slice (HBL.out.grown (gro hbw5 hb)), br_bm (HBL.out.grown (gro hbw5 hb))⟩
  have hd2 : Below w5.heap.size w5 w5.drew := (Below.refl _ _).drew
  have hcl := clone_hnodes (some ⟨gA, oA, none⟩) kk c ((Hm.digs n t m).map val) w5.drew (by rw [List.length_map, HQ.out.2.2.2.2.2, Nat.mul_one]) (HA.out.2.2.1.rd.grown (gro hbw5 hd2)) HA.out.2.2.1.oc (by omega)
  have HU := hid (And.intro HS2 (And.intro hd2 (And.intro hcl hbw5)))
  clear HS2 hd2 hcl hbw5
  go_region_held3 (fun w' => w'.cell? ⟨pb, 1, none⟩ = some (.slice (some ⟨gA, oA, none⟩) kk c) ∧ w'.cell? ⟨pb, 0, none⟩ = some (.int .u16 q))
    (first | exact HU.out.1 _ HU.out.2.1 | exact HU.out.1 _ H6.out.1)
    (
      (go_at_call 164
       refine HU.out.2.2.1.mono ?_
       rintro e w6 ⟨v6, rfl, hb6, ho6, -⟩
       have H6 := hid (And.intro (gro HU.out.2.1 hb6) (And.intro ho6 hb6))
       clear hb6 ho6))
  have hw2 : IntKind.i64.wrap ((r : Int) + 1) = (r : Int) + 1 := by rw [IntKind.wrap_i64]; omega
  clear hw2
  have hde := delete_nodes w5.drew.heap.size kk r v6 ((Hm.digs n t m).map val) w6 H6.out.2.1 HA.out.2.2.1.oc (by omega) hrkk H6.out.2.2.size
  have hrow0 : (Hm.digs n t (Hm.del key m)).map (fun k => if k = d then Value.nilIface else val k) = ((Hm.digs n t m).map val).take (r * 1) ++ ((Hm.digs n t m).map val).drop ((r + 1) * 1) := by
    have h := Hm.digs_del n t m key
    rw [HK.out, HDV.out, HC2.out.1] at h
    have h' : Hm.digs n t (Hm.del key m) = Hm.lo (Hm.has n t m) d ++ Hm.hi (Hm.has n t m) d := by simpa using h
    rw [h', map_lohi, HQ.out.2.2.1, HQ.out.2.2.2.2.1, if_pos rfl, List.map_append, Nat.mul_one, Nat.mul_one]
    have hl : ((Hm.lo (Hm.has n t m) d).map val).length = r := by rw [List.length_map]; exact HQ.out.2.2.2.1
    rw [List.take_append_of_le_length (by omega), List.take_of_length_le (by omega), List.drop_append, List.drop_eq_nil_of_le (by omega), hl, show r + 1 - r = 1 by omega]
    rfl
  have hlen2 : (Hm.digs n t (Hm.del key m)).length = kk - 1 := by
    have := congrArg List.length hrow0
    rw [List.length_map] at this
    rw [this]
    simp only [List.length_append, List.length_take, List.length_drop, List.length_map, HQ.out.2.2.2.2.2]
    omega
  have hne2 := Hm.del_ne (k := key) HA.out.2.2.1.many
  rw [← HN1.out] at hde hlen2
  have HDE := hid hde
  have HROW := hid hrow0
  have HL2 := hid hlen2
  have HNE := hid hne2
  clear hde hrow0 hlen2 hne2
  have hrb : (0 : Int) ≤ (r : Int) ∧ (r : Int) < 1048576 := by omega
  by_cases h1k : N1 = 1
  · have j1 : ((N1 : Int) == 1) = true := by rw [beq_iff_eq]; omega
    have j2 : (0 : Int) < (N1 : Int) := by omega
    obtain ⟨i0, hi0⟩ : ∃ i0, Hm.digs n t (Hm.del key m) = [i0] := by
      have := HL2.out
      rw [h1k] at this
      exact List.length_eq_one_iff.1 this
    have hi0d : i0 ≠ d := by
      rintro rfl
      have : i0 ∈ Hm.digs n t (Hm.del key m) := by rw [hi0]; simp
      have h := Hm.child_ne this
      exact h HC2.out.1
    have hmem : i0 ∈ Hm.digs n t m := by
      have : i0 ∈ Hm.digs n t (Hm.del key m) := by rw [hi0]; simp
      obtain ⟨p, hp, e⟩ := Hm.mem_digs.1 this
      exact Hm.mem_digs.2 ⟨p, (Hm.mem_del.1 hp).1, e⟩
    have hch : Hm.child n t i0 m = Hm.del key m := by
      have h := Hm.child_del_other (n := n) (t := t) (m := m) (k := key) (i := i0) (by rw [HK.out, HDV.out]; exact hi0d)
      rw [← h]
      exact Hm.child_whole hi0
    have HI0 := hid (And.intro hi0 (And.intro hi0d hch))
    have hkind := (HA.out.2.2.1.kids i0 hmem).kind
    clear h1k hi0 hch hmem
    rcases hkind with ⟨p0, hp0, hbk0⟩ | ⟨p0, hp0, hmany0⟩
    · rw [HI0.out.2.2] at hbk0
      have HB0 := hid (And.intro hp0 hbk0)
      clear hp0 hbk0
      go_wp2_with (first
    | (go_at_call 169
       refine HDE.out.mono ?_
       rintro e w9 ⟨A9, c9, rfl, hb9, hrd9, hc9, -, -, hty9⟩
       have hbl9 : Below w.heap.size w w9 := gro (gro HU.out.2.2.2 HU.out.2.1) (H6.out.2.2.trans (hb9.mono (Nat.le_refl _)))
       have hrow : Rd w9 A9 ((Hm.digs n t (Hm.del key m)).map fun k => if k = d then Value.nilIface else val k) := by rw [HROW.out]; exact hrd9
       have hkids := HA.out.2.2.1.kids_del (k := key) (v := Value.nilIface) hbl9 (fun h => absurd HC2.out.1 (by rw [HK.out, HDV.out] at h; exact h))
       rw [HK.out, HDV.out] at hkids
       rw [HI0.out.1, List.map_singleton, if_neg HI0.out.2.1, HB0.out.1] at hrow
       obtain ⟨g9, o9, rfl, hr9⟩ := hrow (by simp)
       have k9 : w9.cell? ⟨g9, o9, none⟩ = some (nbk p0) := hr9 0 _ rfl
       have HW := hid hbl9
       clear hb9 hrd9 hc9 hty9 hbl9 hkids hr9)
    | (go_at_call 170; refine (without_any q d hbm hdl _).mono ?_; rintro e w10 ⟨rfl, rfl⟩))
      go_ret2
      exact ⟨_, rfl, HW.out, .inr ((HB0.out.2.grown HW.out).ht _ _)⟩
    · rw [HI0.out.2.2] at hmany0
      have HMANY := hid hmany0
      have HB0 := hid hp0
      clear hp0 hmany0
      go_wp2_with (first
    | (go_at_call 169
       refine HDE.out.mono ?_
       rintro e w9 ⟨A9, c9, rfl, hb9, hrd9, hc9, -, -, hty9⟩
       have hbl9 : Below w.heap.size w w9 := gro (gro HU.out.2.2.2 HU.out.2.1) (H6.out.2.2.trans (hb9.mono (Nat.le_refl _)))
       have hrow : Rd w9 A9 ((Hm.digs n t (Hm.del key m)).map fun k => if k = d then Value.nilIface else val k) := by rw [HROW.out]; exact hrd9
       have hkids := HA.out.2.2.1.kids_del (k := key) (v := Value.nilIface) hbl9 (fun h => absurd HC2.out.1 (by rw [HK.out, HDV.out] at h; exact h))
       rw [HK.out, HDV.out] at hkids
       have hfk := fork_ht (S := AllS) b n f t h1 h2 (Hm.del key m) HMANY.out (fun k => if k = d then Value.nilIface else val k) A9 c9 N1 (Nib.del q d) _ (HA.out.1.below hbl9) (HA.out.2.1.grown hbl9) HC2.out.2.1 HC2.out.2.2.symm hrow hc9 ⟨fun _ _ => trivial, hty9⟩ hkids
       rw [HI0.out.1, List.map_singleton, if_neg HI0.out.2.1, HB0.out] at hrow
       obtain ⟨g9, o9, rfl, hr9⟩ := hrow (by simp)
       have k9 : w9.cell? ⟨g9, o9, none⟩ = some (nbr p0) := hr9 0 _ rfl
       have HW := hid (And.intro hfk hbl9)
       clear hb9 hrd9 hc9 hty9 hbl9 hkids hr9 hfk)
    | (go_at_call 170; refine (without_any q d hbm hdl _).mono ?_; rintro e w10 ⟨rfl, rfl⟩)
    | (go_at_call 166; refine HW.out.1.mono ?_; rintro e w11 ⟨b', rfl, hb', hh'⟩; have HV := hid (And.intro hb' hh'); clear hb' hh'))
      go_ret2
      exact ⟨_, rfl, gro HW.out.2 HV.out.1, .inr HV.out.2⟩
  · have j1 : ((N1 : Int) == 1) = false := by rw [beq_eq_false_iff_ne]; omega
    have HMANY := hid (Hm.many_digs (n := n) (t := t) (m := Hm.del key m) (by rw [HL2.out]; exact h1k) HNE.out)
    clear h1k
    go_wp2_with (first
    | (go_at_call 169
       refine HDE.out.mono ?_
       rintro e w9 ⟨A9, c9, rfl, hb9, hrd9, hc9, -, -, hty9⟩
       have hbl9 : Below w.heap.size w w9 := gro (gro HU.out.2.2.2 HU.out.2.1) (H6.out.2.2.trans (hb9.mono (Nat.le_refl _)))
       have hrow : Rd w9 A9 ((Hm.digs n t (Hm.del key m)).map fun k => if k = d then Value.nilIface else val k) := by rw [HROW.out]; exact hrd9
       have hkids := HA.out.2.2.1.kids_del (k := key) (v := Value.nilIface) hbl9 (fun h => absurd HC2.out.1 (by rw [HK.out, HDV.out] at h; exact h))
       rw [HK.out, HDV.out] at hkids
       have hfk := fork_ht (S := AllS) b n f t h1 h2 (Hm.del key m) HMANY.out (fun k => if k = d then Value.nilIface else val k) A9 c9 N1 (Nib.del q d) _ (HA.out.1.below hbl9) (HA.out.2.1.grown hbl9) HC2.out.2.1 HC2.out.2.2.symm hrow hc9 ⟨fun _ _ => trivial, hty9⟩ hkids
       have HW := hid (And.intro hfk hbl9)
       clear hb9 hrd9 hc9 hty9 hbl9 hkids hrow hfk)
    | (go_at_call 170; refine (without_any q d hbm hdl _).mono ?_; rintro e w10 ⟨rfl, rfl⟩)
    | (go_at_call 166; refine HW.out.1.mono ?_; rintro e w11 ⟨b', rfl, hb', hh'⟩; have HV := hid (And.intro hb' hh'); clear hb' hh'))
    go_ret2
    exact ⟨_, rfl, gro HW.out.2 HV.out.1, .inr HV.out.2⟩
end Go.Proofs.YtpnakfeafekneaaGreatDoor

namespace Go.Proofs.YtpnakfeafekneaaGreatDoor
open Go.RowKit
set_option maxHeartbeats 2000000 in
set_option maxRecDepth 100000 in
theorem drop_br_stay [Inhabited LoT] (b n : Nat) (h1 : 1 ≤ n) (h2 : n ≤ 32) (f t pb : Nat) (hft : f + 1 + t = 2 * n) (m : List Pr) (key : List UInt8) (A : Option Addr) (c : Nat) (z : Int) (val : Nat → Value) (Ak : Option Addr) (ck : Nat) (w : World) (hw : Words w) (hm : MapW w b n) (ha : BrAt AllS w n f t pb m A c z val) (hk : Rd w Ak (key.map b8)) (hs : Hm.Srt n m)
    (hh : Hm.has n t m (Dg.digit (Dg.key n key) t) = true)
    (hkn : Hm.hasKey key m = true) (hc2e : Hm.child n t (Dg.digit (Dg.key n key) t) (Hm.del key m) ≠ [])
    (hrec : ∀ w', Below w.heap.size w w' → Calls Tryz.prog 118 #[ptr b, val (Dg.digit (Dg.key n key) t), .int .i64 ((t : Int) + 1), dg (Dg.key n key), .slice Ak key.length ck] w' fun e w'' => ∃ T p, e = .returned (.tuple #[ifp T p, .bool true]) ∧ Below w'.heap.size w' w'' ∧ HtAt AllS w'' n f (t + 1) (ifp T p) (Hm.child n t (Dg.digit (Dg.key n key) t) (Hm.del key m))) :
    Calls Tryz.prog 118 #[ptr b, nbr pb, .int .i64 t, dg (Dg.key n key), .slice Ak key.length ck] w fun e w' => ∃ v', e = .returned (.tuple #[v', .bool (Hm.hasKey key m)]) ∧ Below w.heap.size w w' ∧ Tp AllS w' n (f + 1) t v' (Hm.del key m) := by
  rw [hkn]
  clear hkn
  have hkl := Dg.sum_length n (Dg.keyIn key) h2
  have hklen : (Dg.key n key).length = 32 := hkl
  have hkf : Dg.form n (Dg.key n key) = true := Dg.form_sum _ _ h2
  have hdl := Dg.digit_lt (Dg.key n key) t
  have hrk : Nib.rank (Hm.bm n t m) (Dg.digit (Dg.key n key) t) = (Hm.lo (Hm.has n t m) (Dg.digit (Dg.key n key) t)).length := Hm.bmf_rank _ _ hdl
  have hhs : Nib.has (Hm.bm n t m) (Dg.digit (Dg.key n key) t) = true := by unfold Hm.bm; rw [Hm.bmf_has _ _ hdl]; exact hh
  have hbm := Hm.bm_lt n t m
  have hdo := Hm.digs_old n t m _ hdl
  have hdd := fun w' (hb : Below w.heap.size w w') => hdigit_ok b n h1 h2 _ hklen hkf t (by omega) w' (hm.grown hb)
  generalize hK : Dg.key n key = K at hklen hkf hdd hdl hrk hhs hdo hh hrec
  have HK := hid hK
  generalize hdv : Dg.digit K t = d at hdl hrk hhs hdo hdd hh hrec
  have HDV := hid hdv
  generalize hr : (Hm.lo (Hm.has n t m) d).length = r at hrk
  have hd16 : (Hm.digs n t m).length ≤ 16 := Hm.digs_le (Hm.has n t m)
  generalize hq : Hm.bm n t m = q at hbm hhs hrk
  have HL := hid (show (K.map b8).length = 32 by simp [hklen])
  have k0 := ha.blk
  rw [hq] at k0
  generalize hkk : (Hm.digs n t m).length = kk at k0 hd16
  have hrkk : r < kk := by rw [← hkk, hdo, hh]; simp [hr]
  have HREC := hid hrec
  clear hrec
  have hbmd := Hm.bm_del_stay hc2e
  rw [hq] at hbmd
  rw [hK, hdv] at hc2e
  have HC2 := hid (And.intro hc2e hbmd)
  clear hc2e hbmd
  have HA := hid (And.intro hw (And.intro hm (And.intro ha (And.intro hk (And.intro hs hdd)))))
  have HQ := hid (And.intro hq (And.intro hrk (And.intro hdo (And.intro hr (And.intro hh hkk)))))
  have HBL := hid k0
  clear hw hm ha hk hs hK hkl hdd hq hrk hdo hr k0 hkk hh hdv hkf
  have HBX := hid (Boxes1 w K)
  go_enter Tryz.func118, Tryz.ntmps118
  go_upto_region 1 with fail
  refine wp_world (fun w' => Blk w' w.heap.size 40 (K.map b8) ∧ Below w.heap.size w w') HBX.out ?_
  rintro w1 ⟨hb1, hbl1⟩
  have hr1 := hb1.whole
  have HB := hid (And.intro hb1 hbl1)
  clear hb1 hbl1 HBX
  go_upto_region 16 with (first
    | ((with_reducible refine ld_mid 40 (.tmp 8) w.heap.size 0 _ 32 _ HL.out hr1 Tryz.underlying40 rfl (by kernel_rfl) ?_ ?_ ?_ ?_); rfl; rfl; rfl)
    | (go_at_call 96
       refine (HA.out.2.2.2.2.2 w1 HB.out.2).mono ?_
       rintro e w3 ⟨rfl, hb3⟩
       have k3 := br_bm (HBL.out.grown (gro HB.out.2 hb3))
       have HV := hid hb3; clear hb3)
    | (go_at_call 91
       refine (has_any q d hbm hdl _).mono ?_
       rw [hhs]
       rintro e w6 ⟨rfl, rfl⟩)
    | (go_at_call 90
       refine (rank_any q d hbm hdl _).mono ?_
       rw [HQ.out.2.1]
       rintro e w4 ⟨rfl, hb4⟩
       have HY := hid hb4; clear hb4 k3))
  have hbw4 := gro HB.out.2 (gro HV.out HY.out)
  obtain ⟨gA, oA, rfl, hrA⟩ := HA.out.2.2.1.rd (by intro e; have := congrArg List.length e; rw [List.length_map, HQ.out.2.2.2.2.2] at this; simp at this; omega)
  have hpi : (0 : Int) ≤ (r : Int) ∧ (r : Int) < (kk : Int) := by omega
  have hcA : w.cell? ⟨gA, oA + r, none⟩ = some (val d) := by
    have h := hrA r (val d) (by
      rw [HQ.out.2.2.1, HQ.out.2.2.2.2.1, if_pos rfl, List.map_append, List.getElem?_append_right (by rw [List.length_map, HQ.out.2.2.2.1]; exact Nat.le_refl _), List.length_map, HQ.out.2.2.2.1, Nat.sub_self]
      rfl)
    exact h
  have HS : ∀ w', Below w4.heap.size w4 w' → w'.cell? ⟨pb, 1, none⟩ = some (.slice (some ⟨gA, oA, none⟩) kk c) ∧ w'.cell? ⟨gA, oA + r, none⟩ = some (val d) ∧ w'.rangeAt w.heap.size 0 (K.map b8) := fun w' hb =>
    ⟨br_slice (HBL.out.grown (gro hbw4 hb)), by rw [(gro hbw4 hb).cell (p := ⟨gA, oA + r, none⟩) (World.block_lt_of_cell? w _ hcA)]; exact hcA, (HB.out.1.grown (gro (gro HV.out HY.out) hb)).whole⟩
  have hd : Below w4.heap.size w4 w4.drew := (Below.refl _ _).drew
  have hdr := HREC.out w4.drew (gro hbw4 hd)
  have HT := hid (And.intro HS (And.intro hd (And.intro hdr hbw4)))
  clear HS hd hdr hbw4 hrA hcA hr1 HB HV HY
  have hu := Tryz.underlying40
  have hi : (Tryz.prog.info? 40).map (·.size) = some (K.map b8).length := by rw [HL.out]; exact size_dg
  have hl := HL.out
  have hone := one_b8 K
  have hw1 : IntKind.i64.wrap ((t : Int) + 1) = (t : Int) + 1 := by rw [IntKind.wrap_i64]; omega
  go_region_held3 (fun w' => w'.cell? ⟨pb, 1, none⟩ = some (.slice (some ⟨gA, oA, none⟩) kk c) ∧ w'.cell? ⟨gA, oA + r, none⟩ = some (val d) ∧ w'.rangeAt w.heap.size 0 (K.map b8))
    (first | exact HT.out.1 _ HT.out.2.1 | exact HT.out.1 _ H5.out.1)
    (
      (go_at_call 118
       refine HT.out.2.2.1.mono ?_
       rintro e w5 ⟨T5, p5, rfl, hb5, hh5⟩
       have H5 := hid (And.intro (gro HT.out.2.1 hb5) hh5)
       clear hb5 hh5))
  clear hu hi hl hone hw1
  go_upto_region 19 with fail
  have hbw5 := gro HT.out.2.2.2 H5.out.1
  have HS2 : ∀ w', Below w5.heap.size w5 w' → w'.cell? ⟨pb, 1, none⟩ = some (.slice (some ⟨gA, oA, none⟩) kk c) ∧ w'.cell? ⟨pb, 0, none⟩ = some (.int .u16 q) := fun w' hb => ⟨br_slice (HBL.out.grown (gro hbw5 hb)), br_bm (HBL.out.grown (gro hbw5 hb))⟩
  have hd2 : Below w5.heap.size w5 w5.drew := (Below.refl _ _).drew
  have hcl := clone_hnodes (some ⟨gA, oA, none⟩) kk c ((Hm.digs n t m).map val) w5.drew (by rw [List.length_map, HQ.out.2.2.2.2.2, Nat.mul_one]) (HA.out.2.2.1.rd.grown (gro hbw5 hd2)) HA.out.2.2.1.oc (by omega)
  have HU := hid (And.intro HS2 (And.intro hd2 (And.intro hcl hbw5)))
  clear HS2 hd2 hcl hbw5
  go_region_held3 (fun w' => w'.cell? ⟨pb, 1, none⟩ = some (.slice (some ⟨gA, oA, none⟩) kk c) ∧ w'.cell? ⟨pb, 0, none⟩ = some (.int .u16 q))
    (first | exact HU.out.1 _ HU.out.2.1 | exact HU.out.1 _ H6.out.1)
    (
      (go_at_call 164
       refine HU.out.2.2.1.mono ?_
       rintro e w6 ⟨v6, rfl, hb6, ho6, -⟩
       have H6 := hid (And.intro (gro HU.out.2.1 hb6) (And.intro ho6 hb6))
       clear hb6 ho6))
  obtain ⟨g6, c6, cur6, rfl, hm6⟩ := mine_own H6.out.2.1 (by omega)
  have hgB := hm6.hB
  have hgl := hm6.blk.lt
  have hbk6 := hm6.blk.set_ r (ifp T5 p5)
  have hbl56 : Below w5.heap.size w5 (w6.setCell ⟨g6, r, none⟩ (ifp T5 p5)) := H6.out.1.setCell (by show _ ≤ g6; exact hgB) _
  have hblW : Below w.heap.size w (w6.setCell ⟨g6, r, none⟩ (ifp T5 p5)) := gro HU.out.2.2.2 hbl56
  have hc6 : w6.cell? ⟨g6, r, none⟩ = some (val d) := by
    have h := hm6.blk.takes (kk * 1) r (val d) (by
      rw [hm6.hx, HQ.out.2.2.1, HQ.out.2.2.2.2.1, if_pos rfl, List.map_append, List.getElem?_append_right (by rw [List.length_map, HQ.out.2.2.2.1]; exact Nat.le_refl _), List.length_map, HQ.out.2.2.2.1, Nat.sub_self]
      rfl)
    rwa [Nat.zero_add] at h
  have hf6 := hm6.blk.frozen r
  have hdm : Hm.digs n t (Hm.del key m) = Hm.lo (Hm.has n t m) d ++ ([d] ++ Hm.hi (Hm.has n t m) d) := by
    have h := Hm.digs_del n t m key
    rw [HK.out, HDV.out] at h
    cases hce : Hm.child n t d (Hm.del key m) with
    | nil => exact absurd hce HC2.out.1
    | cons x l => rw [hce] at h; simpa using h
  have hrow : Rd (w6.setCell ⟨g6, r, none⟩ (ifp T5 p5)) (some ⟨g6, 0, none⟩) ((Hm.digs n t (Hm.del key m)).map fun k => if k = d then ifp T5 p5 else val k) := by
    have e1 : (cur6.set r (ifp T5 p5)).take (kk * 1) = (Hm.digs n t (Hm.del key m)).map fun k => if k = d then ifp T5 p5 else val k := by
      rw [hdm, Hm.map_upd, List.take_set, hm6.hx, HQ.out.2.2.1, HQ.out.2.2.2.2.1, if_pos rfl, List.map_append, List.map_append]
      have hl : ((Hm.lo (Hm.has n t m) d).map val).length = r := by rw [List.length_map]; exact HQ.out.2.2.2.1
      rw [List.set_append_right _ _ (by omega), hl, Nat.sub_self]
      rfl
    rw [← e1]
    exact Rd.of _ (hbk6.takes _)
  have hkids := HA.out.2.2.1.kids_del (k := key) (v := ifp T5 p5) hblW (fun _ => by rw [HK.out, HDV.out]; exact HtAt.grown hbl56 H5.out.2)
  rw [HK.out, HDV.out] at hkids
  have hlen2 : (Hm.digs n t (Hm.del key m)).length = kk := by rw [hdm, ← HQ.out.2.2.2.2.2, HQ.out.2.2.1, HQ.out.2.2.2.2.1, if_pos rfl]
  have hc6c := hm6.hc
  have hdin : d ∈ Hm.digs n t (Hm.del key m) := by rw [hdm]; simp
  have HL2 := hid hlen2
  have HNE := hid (Hm.del_ne (k := key) HA.out.2.2.1.many)
  have hrb : (0 : Int) ≤ (r : Int) ∧ (r : Int) < (kk : Int) := by omega
  by_cases h1k : kk = 1
  · have j1 : ((kk : Int) == 1) = true := by rw [beq_iff_eq]; omega
    have j2 : (0 : Int) < (kk : Int) := by omega
    have hr0 : r = 0 := by omega
    have hi0 : Hm.digs n t (Hm.del key m) = [d] := by
      rw [h1k] at hlen2
      obtain ⟨i0, hi0⟩ := List.length_eq_one_iff.1 hlen2
      rw [hi0, List.mem_singleton] at hdin
      rw [hi0, hdin]
    have hch := Hm.child_whole hi0
    have hkd := hkids d hdin
    rw [if_pos rfl, hch] at hkd
    have hkind := hkd.kind
    have hrow1 := hrow
    rw [hi0, List.map_singleton, if_pos rfl] at hrow1
    have k9 : (w6.setCell ⟨g6, r, none⟩ (ifp T5 p5)).cell? ⟨g6, 0, none⟩ = some (ifp T5 p5) := by
      obtain ⟨g', o', e', hr'⟩ := hrow1 (by simp)
      cases e'
      exact hr' 0 _ rfl
    rcases hkind with ⟨p0, hp0, hbk0⟩ | ⟨p0, hp0, hmany0⟩
    · cases hp0
      have HB0 := hid (And.intro hbk0 hblW)
      clear hkd hbk0 hch hi0 hrow1 hrow hkids hlen2 hdin hdm hbk6 hbl56 hblW hm6 h1k hr0
      go_wp2_with fail
      go_ret2
      exact ⟨_, rfl, HB0.out.2, .inr (HB0.out.1.ht _ _)⟩
    · cases hp0
      have hfk := fork_ht (S := AllS) b n f t h1 h2 (Hm.del key m) hmany0 (fun k => if k = d then nbr p5 else val k) (some ⟨g6, 0, none⟩) c6 kk q _ (HA.out.1.below hblW) (HA.out.2.1.grown hblW) hlen2.symm HC2.out.2.symm hrow hc6c ⟨fun _ _ => trivial, hbk6.tyd⟩ hkids
      have HW := hid (And.intro hfk hblW)
      clear hkd hmany0 hch hi0 hrow1 hrow hkids hlen2 hdin hdm hbk6 hbl56 hblW hm6 hfk h1k hr0
      go_wp2_with (
        ((go_at_call 166; refine HW.out.1.mono ?_; rintro e w11 ⟨b', rfl, hb', hh'⟩; have HV := hid (And.intro hb' hh'); clear hb' hh')))
      go_ret2
      exact ⟨_, rfl, gro HW.out.2 HV.out.1, .inr HV.out.2⟩
  · have j1 : ((kk : Int) == 1) = false := by rw [beq_eq_false_iff_ne]; omega
    have hmany0 := Hm.many_digs (n := n) (t := t) (m := Hm.del key m) (by rw [hlen2]; exact h1k) HNE.out
    have hfk := fork_ht (S := AllS) b n f t h1 h2 (Hm.del key m) hmany0 (fun k => if k = d then ifp T5 p5 else val k) (some ⟨g6, 0, none⟩) c6 kk q _ (HA.out.1.below hblW) (HA.out.2.1.grown hblW) hlen2.symm HC2.out.2.symm hrow hc6c ⟨fun _ _ => trivial, hbk6.tyd⟩ hkids
    have HW := hid (And.intro hfk hblW)
    clear hmany0 hrow hkids hlen2 hdin hdm hbk6 hbl56 hblW hm6 hfk h1k
    go_wp2_with (
      ((go_at_call 166; refine HW.out.1.mono ?_; rintro e w11 ⟨b', rfl, hb', hh'⟩; have HV := hid (And.intro hb' hh'); clear hb' hh')))
    go_ret2
    exact ⟨_, rfl, gro HW.out.2 HV.out.1, .inr HV.out.2⟩
end Go.Proofs.YtpnakfeafekneaaGreatDoor

namespace Go.Proofs.YtpnakfeafekneaaGreatDoor
open Go.RowKit
set_option maxRecDepth 100000 in
theorem drop_nil [Inhabited LoT] (b n : Nat) (t : Nat) (D key : List UInt8) (Ak : Option Addr) (ck : Nat) (w : World) :
    Calls Tryz.prog 118 #[ptr b, .nilIface, .int .i64 t, dg D, .slice Ak key.length ck] w fun e w' => e = .returned (.tuple #[.nilIface, .bool false]) ∧ Below w.heap.size w w' := by
  have HBX := hid (Boxes1 w D)
  go_enter Tryz.func118, Tryz.ntmps118
  go_upto_region 1 with fail
  refine wp_world (fun w' => Below w.heap.size w w') HBX.out.2 ?_
  rintro w1 hb1
  have HB := hid hb1
  clear hb1 HBX
  go_wp2_with fail
  go_ret2
  exact ⟨rfl, HB.out⟩
theorem drop_any [Inhabited LoT] (b n : Nat) (h1 : 1 ≤ n) (h2 : n ≤ 32) (key : List UInt8) (Ak : Option Addr) (ck : Nat) : ∀ (f t : Nat) (v : Value) (m : List Pr) (w : World), f + t = 2 * n → Words w → MapW w b n → Rd w Ak (key.map b8) → HtAt AllS w n f t v m → Hm.Srt n m → Bnd m →
    Calls Tryz.prog 118 #[ptr b, v, .int .i64 t, dg (Dg.key n key), .slice Ak key.length ck] w fun e w' => ∃ v', e = .returned (.tuple #[v', .bool (Hm.hasKey key m)]) ∧ Below w.heap.size w w' ∧ Tp AllS w' n f t v' (Hm.del key m) := by
  have hkl : (Dg.key n key).length = 32 := Dg.sum_length n (Dg.keyIn key) h2
  intro f
  induction f with
  | zero =>
    intro t v m w hft hw hm hk ha hs hbd
    exact drop_bk AllS b n h1 h2 0 t v m _ key hkl Ak ck w hw hm ha hk hs hbd
  | succ f ih =>
    intro t v m w hft hw hm hk ha hs hbd
    rcases ha with ⟨_, ha⟩ | ⟨hsg, pb, A, c, z, val, rfl, h3, h4, h5, h6, h7⟩
    · exact drop_bk AllS b n h1 h2 (f + 1) t v m _ key hkl Ak ck w hw hm ha hk hs hbd
    · have hbr : BrAt AllS w n f t pb m A c z val := ⟨hsg, h3, h4, h5, h6, h7⟩
      cases hh : Hm.has n t m (Dg.digit (Dg.key n key) t) with
      | false => exact drop_br_none b n h1 h2 f t pb hft m key A c z val Ak ck w hw hm hbr hk hs hh
      | true =>
        have hd : Dg.digit (Dg.key n key) t ∈ Hm.digs n t m := Hm.mem_digs.2 (Hm.has_iff.1 hh)
        have hrec : ∀ w', Below w.heap.size w w' → Calls Tryz.prog 118 #[ptr b, val (Dg.digit (Dg.key n key) t), .int .i64 ((t : Int) + 1), dg (Dg.key n key), .slice Ak key.length ck] w' fun e w'' => ∃ v', e = .returned (.tuple #[v', .bool (Hm.hasKey key m)]) ∧ Below w'.heap.size w' w'' ∧ Tp AllS w'' n f (t + 1) v' (Hm.del key (Hm.child n t (Dg.digit (Dg.key n key) t) m)) := by
          intro w' hb
          have := ih (t + 1) (val (Dg.digit (Dg.key n key) t)) (Hm.child n t (Dg.digit (Dg.key n key) t) m) w' (by omega) (hw.below hb) (hm.grown hb) (hk.grown hb) (HtAt.grown hb (h7 _ hd)) hs.child (hbd.filter _)
          rw [show ((t + 1 : Nat) : Int) = (t : Int) + 1 from rfl, Hm.hasKey_child] at this
          exact this
        cases hkn : Hm.hasKey key m with
        | false =>
          have := drop_br_not b n h1 h2 f t pb hft m key A c z val Ak ck w hw hm hbr hk hs hh hkn (fun w' hb => (hrec w' hb).mono fun e w'' ⟨v', e', hb', _⟩ => ⟨v', by rw [e', hkn], hb'⟩)
          rw [hkn] at this
          exact this
        | true =>
          by_cases hc : Hm.child n t (Dg.digit (Dg.key n key) t) (Hm.del key m) = []
          · have := drop_br_gone b n h1 h2 f t pb hft m key A c z val Ak ck w hw hm hbr hk hs hh hkn hc (fun w' hb => (hrec w' hb).mono fun e w'' ⟨v', e', hb', ht⟩ => by
              rcases ht with ⟨_, rfl⟩ | ht
              · exact ⟨by rw [e', hkn], hb'⟩
              · rw [← Hm.child_del, hc] at ht
                exact absurd rfl ht.ne)
            rw [hkn] at this
            exact this
          · have := drop_br_stay b n h1 h2 f t pb hft m key A c z val Ak ck w hw hm hbr hk hs hh hkn hc (fun w' hb => (hrec w' hb).mono fun e w'' ⟨v', e', hb', ht⟩ => by
              rw [← Hm.child_del] at ht
              rcases ht with ⟨h, _⟩ | ht
              · exact absurd h hc
              · obtain ⟨T, p, rfl⟩ := ht.shape
                exact ⟨T, p, by rw [e', hkn], hb', ht⟩)
            rw [hkn] at this
            exact this
theorem drop_top [Inhabited LoT] (b n : Nat) (h1 : 1 ≤ n) (h2 : n ≤ 32) (key : List UInt8) (Ak : Option Addr) (ck : Nat) (v : Value) (m : List Pr) (w : World) (hw : Words w) (hm : MapW w b n) (hk : Rd w Ak (key.map b8)) (ht : Top w n v m) (hs : Hm.Srt n m) (hbd : Bnd m) :
    Calls Tryz.prog 118 #[ptr b, v, .int .i64 0, dg (Dg.key n key), .slice Ak key.length ck] w fun e w' => ∃ v', e = .returned (.tuple #[v', .bool (Hm.hasKey key m)]) ∧ Below w.heap.size w w' ∧ Top w' n v' (Hm.del key m) := by
  rcases ht with ⟨rfl, rfl⟩ | ht
  · exact (drop_nil b n 0 _ key Ak ck w).mono fun _ _ ⟨e, hb⟩ => ⟨_, e, hb, .inl ⟨rfl, rfl⟩⟩
  · exact drop_any b n h1 h2 key Ak ck (2 * n) 0 v m w (by omega) hw hm hk ht hs hbd
set_option maxHeartbeats 1000000 in
set_option maxRecDepth 100000 in
theorem hdelete_ok [Inhabited LoT] (b n : Nat) (h1 : 1 ≤ n) (h2 : n ≤ 32) (m : List Pr) (k : List UInt8) (A1 : Option Addr) (c1 : Nat) (w : World) (hw : Words w) (hm : MapAt w n b m) (hk : Rd w A1 (k.map b8)) (hkl : k.length ≤ 64) :
    Calls Tryz.prog 74 #[ptr b, .slice A1 k.length c1] w fun e w' => ∃ b', e = .returned (.tuple #[ptr b', .bool (Hm.hasKey k m), .int .i64 0]) ∧ Below w.heap.size w w' ∧ MapAt w' n b' (Hm.del k m) := by
  have hmw := hm.w
  obtain ⟨⟨top, htb, htop⟩, hsrt, hbnd, hlob⟩ := hm
  have HLO := hid (show Lo ≤ w.heap.size from Nat.le_trans hlob (Nat.le_of_lt htb.lt))
  clear hlob
  have hkl1 := Dg.sum_length n (Dg.keyIn k) h2
  have hklen : (Dg.key n k).length = 32 := hkl1
  have hchk := hcheck_ok b n h1 h2 k A1 c1 w hw hmw hk hkl
  have hdrop := fun w' (hb : Below w.heap.size w w') => drop_top b n h1 h2 k A1 c1 top m w' (hw.below hb) (hmw.grown hb) (hk.grown hb) (htop.grown hb) hsrt hbnd
  generalize hK : Dg.key n k = K at hklen hchk hdrop
  have HL := hid (show (K.map b8).length = 32 by simp [hklen])
  have HA := hid (And.intro hw (And.intro htb (And.intro hsrt (And.intro hbnd hmw))))
  have HC := hid (And.intro hchk hdrop)
  clear hw htb htop hsrt hbnd hk hmw hchk hdrop hK hkl1
  go_enter Tryz.func74, Tryz.ntmps74
  go_upto_region 4 with (first
    | (go_at_call 93
       refine HC.out.1.mono ?_
       rintro e w2 ⟨rfl, hb⟩
       have HV := hid hb; clear hb)
    | ((with_reducible refine st_new 40 (.tmp 7) (.tmp 15) _ _ (K.map b8) 32 HL.out ?_ (by kernel_rfl) (one_b8 _) ?_ ?_ ?_ ?_ ?_); rfl; rfl; rfl; rfl; rfl))
  refine wp_world (fun w' => Below w.heap.size w w' ∧ w'.rangeAt w2.heap.size 0 (K.map b8)) ⟨gro HV.out (below_box _ _), (Blk.new w2 _ _).whole⟩ ?_
  rintro w3 ⟨hb3, hr3⟩
  have HS : ∀ w', Below w3.heap.size w3 w' → w'.cell? ⟨b, 1, none⟩ = some top ∧ w'.rangeAt w2.heap.size 0 (K.map b8) := fun w' hb => by
    have h := (HA.out.2.1.grown hb3).grown hb
    exact ⟨by rw [h.cell]; rfl, range_grown hr3 hb⟩
  have hd : Below w3.heap.size w3 w3.drew := (Below.refl _ _).drew
  have hdr := HC.out.2 w3.drew (gro hb3 hd)
  have HT := hid (And.intro HS (And.intro hd (And.intro hdr hb3)))
  clear HS hd hdr hb3 hr3
  have hu := Tryz.underlying40
  have hi : (Tryz.prog.info? 40).map (·.size) = some (K.map b8).length := by rw [HL.out]; exact size_dg
  have hl := HL.out
  have hone := one_b8 K
  go_region_held3 (fun w' => w'.cell? ⟨b, 1, none⟩ = some top ∧ w'.rangeAt w2.heap.size 0 (K.map b8))
    (first | exact HT.out.1 _ HT.out.2.1 | exact HT.out.1 _ H5.out.1)
    (
      (go_at_call 118
       refine HT.out.2.2.1.mono ?_
       rintro e w5 ⟨v5, rfl, hb5, ht5⟩
       have k5 : w5.cell? ⟨b, 0, none⟩ = some (.int .i64 n) := HA.out.2.2.2.2.grown (gro HT.out.2.2.2 (gro HT.out.2.1 hb5))
       have H5 := hid (And.intro (gro HT.out.2.1 hb5) ht5)
       clear hb5 ht5))
  have hfin : ∀ v, Top w5 n v (Hm.del k m) → MapAt (w5.alloc (.cells #[.int .i64 n, v] 159)) n w5.heap.size (Hm.del k m) := fun v hv =>
    ⟨⟨v, Blk.new w5 _ [.int .i64 n, v], hv.grown (below_box _ _)⟩, Hm.del_srt HA.out.2.2.1, HA.out.2.2.2.1.filter _, Nat.le_trans HLO.out (gro HT.out.2.2.2 H5.out.1).size⟩
  have HF := hid hfin
  have HTP := hid H5.out.2
  have HB5 := hid H5.out.1
  clear hfin H5
  obtain ⟨T5, p5, rfl⟩ | rfl : (∃ T p, v5 = ifp T p) ∨ v5 = .nilIface := by
    rcases HTP.out with ⟨_, h⟩ | h
    · exact .inr h
    · exact .inl (HtAt.shape h)
  · go_wp2_with fail
    go_ret3
    exact ⟨_, rfl, gro HT.out.2.2.2 (gro HB5.out (below_box _ _)), HF.out _ HTP.out⟩
  · go_wp2_with fail
    go_ret3
    exact ⟨_, rfl, gro HT.out.2.2.2 (gro HB5.out (below_box _ _)), HF.out _ HTP.out⟩
end Go.Proofs.YtpnakfeafekneaaGreatDoor

namespace Go.Proofs.YtpnakfeafekneaaGreatDoor
open Go.RowKit
def PureT (t : TypeId) : Prop := ([5, 166, 157, 164, 171, 159, 180, 243, 196] : List Nat).contains t = true
instance : DecidablePred PureT := fun t => inferInstanceAs (Decidable (_ = true))
theorem Stay.pure_of_kept {S : Nat → Prop} {w w' : World} (h : Kept S w w') (hS : ∀ k, S k → ∃ t c fz, w.heap[k]? = some (.cells c t fz) ∧ ¬ PureT t) : Stay PureT w w' :=
  Stay.of_kept h fun k hk t c fz hh => by
    obtain ⟨t', c', fz', h', hn⟩ := hS k hk
    rw [h'] at hh
    cases hh
    exact hn
theorem PairAt.stay [Inhabited LoT] {w w' : World} (h : Stay PureT w w') {x : List Value} {p : Pr} (hp : PairAt w x p) : PairAt w' x p := by
  obtain ⟨A1, c1, A2, c2, e, h1, h2, h3, h4, h5, h6⟩ := hp
  exact ⟨A1, c1, A2, c2, e, h.rdb h1 h5 (by decide), h.rdb h2 h6 (by decide), h3, h4, h.tyb h5 (by decide), h.tyb h6 (by decide)⟩
theorem PairsAt.stay [Inhabited LoT] {w w' : World} (h : Stay PureT w w') {L : List (List Value)} {m : List Pr} (hp : PairsAt w L m) : PairsAt w' L m := ⟨hp.len, fun i x p h1 h2 => (hp.at_ i x p h1 h2).stay h⟩
theorem Bk.stay [Inhabited LoT] {w w' : World} (h : Stay PureT w w') {n : Nat} {v : Value} {m : List Pr} (hb : Bk w n v m) : Bk w' n v m := by
  obtain ⟨b, of, A, c, L, e, hb⟩ := hb
  exact ⟨b, of, A, c, L, e, h.blk hb.blk (by decide), h.rd hb.rd hb.ty (by decide), hb.at_.stay h, hb.cap, hb.key, hb.len, hb.ne, h.tyd hb.ty (by decide)⟩
theorem HtAt.stay [Inhabited LoT] {S : Nat → Prop} {w w' : World} (h : Stay PureT w w') {n : Nat} : ∀ {f t : Nat} {v : Value} {m : List Pr}, HtAt S w n f t v m → HtAt S w' n f t v m
  | 0, _, _, _, hb => Bk.stay h hb
  | f + 1, t, v, m, hb => by
    rcases hb with ⟨h1, h2⟩ | ⟨h1, b, A, c, z, val, e, h2, h3, h4, h6, h5⟩
    · exact .inl ⟨h1, h2.stay h⟩
    · exact .inr ⟨h1, b, A, c, z, val, e, h.blk h2 (by decide), h.rd h3 h6.2 (by decide), h4, ⟨h6.1, h.tyd h6.2 (by decide)⟩, fun i hi => HtAt.stay h (h5 i hi)⟩
theorem MapAt.stay [Inhabited LoT] {w w' : World} (h : Stay PureT w w') {n b : Nat} {m : List Pr} (hm : MapAt w n b m) : MapAt w' n b m := by
  obtain ⟨⟨top, h1, h2⟩, h3, h4, h5⟩ := hm
  exact ⟨⟨top, h.blk h1 (by decide), h2.imp id (HtAt.stay h)⟩, h3, h4, h5⟩
theorem TreeAt.stay {w w' : World} (h : Stay PureT w w') {b n : Nat} {ds : List (List UInt8)} (ht : TreeAt w b n ds) : TreeAt w' b n ds := by
  obtain ⟨A, c, bs, ts, h1, h2, h3, h4, h5⟩ := ht
  exact ⟨A, c, bs, ts, h.blk h1 (by decide), h.rd h2 h4.2 (by decide), h3, ⟨h4.1.stay (fun k cs hb => h.blk hb (by decide)), h.tyd h4.2 (by decide)⟩, h5⟩
def EntTy [Inhabited LoT] (w : World) (x : List Value) (e : Ent) : Prop := ∃ A1 c1 A2 c2, x = [b8 e.kind, .slice A1 e.key.length c1, .slice A2 e.val.length c2] ∧ Rd w A1 (e.key.map b8) ∧ Rd w A2 (e.val.map b8) ∧ e.key.length ≤ c1 ∧ e.val.length ≤ c2 ∧ TyB w 5 A1 ∧ TyB w 5 A2
theorem EntTy.at_ [Inhabited LoT] {w : World} {x : List Value} {e : Ent} (h : EntTy w x e) : EntAt w x e := by
  obtain ⟨A1, c1, A2, c2, e, h1, h2, h3, h4, -⟩ := h
  exact ⟨A1, c1, A2, c2, e, h1, h2, h3, h4⟩
theorem EntTy.stay [Inhabited LoT] {w w' : World} (h : Stay PureT w w') {x : List Value} {p : Ent} (hp : EntTy w x p) : EntTy w' x p := by
  obtain ⟨A1, c1, A2, c2, e, h1, h2, h3, h4, h5, h6⟩ := hp
  exact ⟨A1, c1, A2, c2, e, h.rdb h1 h5 (by decide), h.rdb h2 h6 (by decide), h3, h4, h.tyb h5 (by decide), h.tyb h6 (by decide)⟩
structure EntsTy [Inhabited LoT] (w : World) (L : List (List Value)) (es : List Ent) : Prop where
  len : L.length = es.length
  at_ : ∀ (i : Nat) (x : List Value) (p : Ent), L[i]? = some x → es[i]? = some p → EntTy w x p
theorem EntsTy.stay [Inhabited LoT] {w w' : World} (h : Stay PureT w w') {L : List (List Value)} {es : List Ent} (hp : EntsTy w L es) : EntsTy w' L es := ⟨hp.len, fun i x p h1 h2 => (hp.at_ i x p h1 h2).stay h⟩
theorem EntsTy.grown [Inhabited LoT] {w w' : World} (hb : Below w.heap.size w w') {L : List (List Value)} {es : List Ent} (hp : EntsTy w L es) : EntsTy w' L es := hp.stay (Stay.of_grown hb)
theorem EntsTy.ents [Inhabited LoT] {w : World} {L : List (List Value)} {es : List Ent} (hp : EntsTy w L es) : EntsAt w L es := ⟨hp.len, fun i x p h1 h2 => (hp.at_ i x p h1 h2).at_⟩
theorem EntTy.len [Inhabited LoT] {w : World} {x : List Value} {e : Ent} (h : EntTy w x e) : x.length = 3 := by obtain ⟨A1, c1, A2, c2, e, _⟩ := h; rw [e]; rfl
theorem EntTy.oc [Inhabited LoT] {w : World} {x : List Value} {p : Ent} (h : EntTy w x p) : ∀ v ∈ x, v.oneCell' = true := by
  obtain ⟨A1, c1, A2, c2, e, _⟩ := h
  rw [e]
  intro v hv
  rcases List.mem_cons.1 hv with rfl | hv
  · rfl
  · rcases List.mem_cons.1 hv with rfl | hv
    · rfl
    · rw [List.mem_singleton] at hv; subst hv; rfl
theorem EntsTy.append [Inhabited LoT] {w : World} {L1 L2 : List (List Value)} {m1 m2 : List Ent} (h1 : EntsTy w L1 m1) (h2 : EntsTy w L2 m2) : EntsTy w (L1 ++ L2) (m1 ++ m2) := by
  refine ⟨by rw [List.length_append, List.length_append, h1.len, h2.len], fun i x p hx hp => ?_⟩
  have hl := h1.len
  by_cases hi : i < L1.length
  · rw [List.getElem?_append_left hi] at hx
    rw [List.getElem?_append_left (by omega)] at hp
    exact h1.at_ i x p hx hp
  · rw [List.getElem?_append_right (by omega)] at hx
    rw [List.getElem?_append_right (by omega), ← hl] at hp
    exact h2.at_ _ x p hx hp
theorem EntsTy.one [Inhabited LoT] {w : World} {x : List Value} {p : Ent} (h : EntTy w x p) : EntsTy w [x] [p] := by
  refine ⟨rfl, fun i y q hy hq => ?_⟩
  cases i with
  | zero => simp at hy hq; subst hy hq; exact h
  | succ i => simp at hy
theorem EntsTy.oc [Inhabited LoT] {w : World} {L : List (List Value)} {m : List Ent} (h : EntsTy w L m) : ∀ v ∈ L.flatten, v.oneCell' = true := by
  intro v hv
  obtain ⟨x, hx, hv⟩ := List.mem_flatten.1 hv
  obtain ⟨i, hi, rfl⟩ := List.getElem_of_mem hx
  have hm : i < m.length := by have := h.len; omega
  exact (h.at_ i L[i] m[i] (by simp [hi]) (by simp [hm])).oc v hv
theorem EntsTy.flat [Inhabited LoT] {w : World} {L : List (List Value)} {m : List Ent} (h : EntsTy w L m) : L.flatten.length = m.length * 3 := by rw [flatten_size 3 _ h.ents.three, h.len]
namespace Sn
def leaves (n : Nat) (es : List Ent) : List (List UInt8) := es.map fun e => Dg.leaf n (En.bytes e)
def step (n : Nat) (m : List Pr) (e : Ent) : List Pr := if e.kind = 1 then Hm.ins n ⟨e.key, e.val⟩ m else Hm.del e.key m
def map (n : Nat) (es : List Ent) : List Pr := es.foldl (step n) []
def root (n : Nat) (es : List Ent) : Rt := ⟨es.length, Mt.log n (leaves n es), Hm.root n (map n es)⟩
theorem map_snoc (n : Nat) (es : List Ent) (e : Ent) : map n (es ++ [e]) = step n (map n es) e := by simp [map, List.foldl_append]
end Sn
def rtCells (r : Rt) : List Value := .int .u64 r.size :: (r.log.map b8 ++ r.map.map b8)
theorem root_log_len [Inhabited LoT] (n : Nat) (h2 : n ≤ 32) (m : List Pr) : (Hm.root n m).length = 32 := by
  unfold Hm.root
  split
  · exact Dg.sum_length _ _ h2
  · exact node_len n h2 _ _ _
end Go.Proofs.YtpnakfeafekneaaGreatDoor
