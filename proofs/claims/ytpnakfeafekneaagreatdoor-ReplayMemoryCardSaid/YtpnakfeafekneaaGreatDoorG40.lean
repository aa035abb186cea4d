/- Part 40 of this proof: ZL, ZM, ZN, ZO, ZP, ZQ, ZR, MA. -/
import Derived.Laws.EntriesVeiled
import Derived.Test.YtpnakfeafekneaaGreatDoorG39
set_option linter.unusedSimpArgs false
set_option linter.unusedVariables false
namespace Go.Proofs.YtpnakfeafekneaaGreatDoor
open Go.RowKit
def rtSz (rs : List Rt) : List Value := rs.map fun r => .int .u64 (r.size : Nat)
theorem Rbs_sz (n : Nat) (bs : List (List Ent)) (k : Nat) : rtSz (Rbs n bs k) = Szs bs k := by
  unfold rtSz Rbs Szs
  rw [List.map_map]
  rfl
theorem rtSz_take (rs : List Rt) (j : Nat) (hj : j < rs.length) : rtSz (rs.take (j + 1)) = rtSz (rs.take j) ++ [.int .u64 (rs[j].size : Nat)] := by
  unfold rtSz
  rw [List.take_succ_eq_append_getElem hj, List.map_append]
  rfl
theorem ssizes_any [Inhabited LoT] (S b n : Nat) (es : List Ent) (rs : List Rt) (k : Nat) (w : World) (hs : SnapAt S w n b es rs) (hk : rs.length = k) (hn : k < 1048576) :
    Calls Tryz.prog 31 #[ptr b] w fun e w' => ∃ As cs, e = .returned (.slice As k cs) ∧ Below w.heap.size w w' ∧ Rd w' As (rtSz rs) := by
  obtain ⟨tb, mb, Ae, ce, Le, Ap, cp, hb, -, -, -, ⟨hp1, hp2, -⟩, -, hok⟩ := hs
  have q3 : w.cell? ⟨b, 3, none⟩ = some (.slice Ap rs.length cp) := by rw [hb.cell]; rfl
  rw [hk] at q3
  have HA := hid (And.intro hp1 (And.intro hok hk))
  clear hb hp1 hp2 hok hk
  go_enter Tryz.func31, Tryz.ntmps31
  go_wp2_with fail
  go_loopg [3, 14] k (fun g s3 i wr => ∃ (j : Nat) (As : Option Addr) (cs : Nat), j + g = k ∧ i = .int .i64 j ∧ s3 = .slice As j cs ∧ wr.ownsRow w.heap.size 38 1 (.slice As j cs) j (rtSz (rs.take j)) ∧ Below w.heap.size w wr)
  case atStart => exact ⟨0, none, 0, by omega, rfl, rfl, World.ownsRow_nil _ _ _ _, Below.refl _ _⟩
  case round =>
    obtain ⟨j, As, cs, hj, rfl, rfl, hos, hbl⟩ := hrel
    have HR := hid (And.intro hos hbl)
    clear hos hbl
    by_cases hlt : j < k
    · have hjr : j < rs.length := by rw [HA.out.2.2]; exact hlt
      have h65 := rtRow_len HA.out.2.1
      have hjl : j < (rtRow rs).length := by unfold rtRow; rw [List.length_map]; exact hjr
      obtain ⟨g, o, rfl, hr⟩ := HA.out.1 (by
        intro e
        have := flatten_len 65 _ h65
        rw [e] at this
        simp at this; omega)
      have hp := range_part hr h65 j hjl
      have hej : (rtRow rs)[j] = rtCells rs[j] := by simp [rtRow]
      rw [hej] at hp
      have hrk := HA.out.2.1 rs[j] (List.getElem_mem hjr)
      have hrl := rt_len hrk
      have hoc := rt_oc rs[j]
      have htk := rtSz_take rs j hjr
      obtain ⟨T, hT⟩ : ∃ T, T = rs[j].size := ⟨_, rfl⟩
      rw [← hT] at htk
      have h0 : (rtCells rs[j])[0]? = some (.int .u64 T) := by rw [hT]; rfl
      obtain ⟨R, hR⟩ : ∃ R, R = rtCells rs[j] := ⟨_, rfl⟩
      rw [← hR] at hp hrl hoc h0
      have hp2 := range_below hp HR.out.2 (range_lt hp (by omega))
      have k9 : (wr.alloc (.cells R.toArray 42)).cell? ⟨wr.heap.size, 0, none⟩ = some (.int .u64 T) := by rw [(Blk.new wr 42 R).cell]; exact h0
      have hou : ∀ u ∈ [Value.int .u64 T], u.oneCell' = true := fun u hu => by rw [List.mem_singleton] at hu; rw [hu]; rfl
      have hb1 := below_box wr (.cells R.toArray 42)
      have hb2 := gro hb1 (below_box (wr.alloc (.cells R.toArray 42)) (.cells [Value.int .u64 T].toArray 38))
      have own8 := own_grown HR.out.1 hb2
      have hr8 := Rd.of _ (Blk.new (wr.alloc (.cells R.toArray 42)) 38 [.int .u64 T]).whole
      have hbs8 := (gro HR.out.2 hb2).size
      have h63 : j + 1 ≤ maxLen := by simp only [maxLen]; omega
      have hby : (j + 1) * 8 ≤ 140737488355328 := by omega
      rw [show (wr.alloc (.cells R.toArray 42)).heap.size = wr.heap.size + 1 by simp] at hr8
      have H8 := hid (And.intro own8 (And.intro hr8 (And.intro hb2 htk)))
      clear hr hp hej hR hT htk hb1 hb2 own8 hr8 h0 hrk h65
      go_wp2_with (first
        | ((with_reducible refine ld_mid 42 (.tmp 16) g (o + j * 65) R 65 _ hrl hp2 Tryz.underlying42 rfl (by kernel_rfl) ?_ ?_ ?_ ?_); rfl; rfl; rfl)
        | ((with_reducible refine st_new 42 (.tmp 5) (.tmp 17) _ _ R 65 hrl ?_ (by kernel_rfl) hoc ?_ ?_ ?_ ?_ ?_); rfl; rfl; rfl; rfl; rfl)
        | ((with_reducible refine ap_own (.tmp 18) (.tmp 21) 52 Tryz.underlying52 info_u64 rfl (by decide) H8.out.1 1 1 rfl H8.out.2.1 hou h63 hby hbs8 ?_ ?_ ?_ ?_ ?_); rfl; rfl; rfl; rfl
           intro v9 w9 hn1 hn2 hn3 hn4
           obtain ⟨A9, c9, rfl, hr9, hc9⟩ := rd_own hn1
           have H9 := hid (And.intro hn1 (grownBy_below H8.out.1 (gro HR.out.2 H8.out.2.2.1) hbs8 hn2))
           clear hn1 hn2 hn3 hn4 hr9 hc9))
      go_roundg (gk - 1)
      case measure => omega
      case rel => exact ⟨j + 1, A9, c9, by omega, by go_num, rfl, by rw [H8.out.2.2.2]; exact H9.out.1, H9.out.2⟩
    · obtain rfl : j = k := by omega
      have hos := HR.out.1
      rw [List.take_of_length_le (by rw [HA.out.2.2]; exact Nat.le_refl _)] at hos
      have HO := hid hos
      clear hos
      go_wp2_with fail
      go_ret
      obtain ⟨A9, c9, e9, hr9, -⟩ := rd_own HO.out
      cases e9
      exact ⟨As, cs, rfl, HR.out.2, hr9⟩
end Go.Proofs.YtpnakfeafekneaaGreatDoor

namespace Go.Proofs.YtpnakfeafekneaaGreatDoor
open Go.RowKit
abbrev pastFn (B : Nat) : Value := .func (Fn.func 56) #[] #[ptr B]
theorem past1_any (r : Rt) (h : RtOk r) (B v : Nat) (q : Bool) (hq : q = decide (r.size = v)) (w : World) (hB : w.cell? ⟨B, 0, none⟩ = some (.int .u64 v)) :
    Calls Tryz.prog 56 #[.agg (rtCells r).toArray, ptr B] w fun e w' => e = .returned (.bool q) ∧ Below w.heap.size w w' := by
  have hrl := rt_len h
  have h0 : (rtCells r)[0]? = some (.int .u64 (r.size : Nat)) := rfl
  obtain ⟨T, hT⟩ : ∃ T, T = r.size := ⟨_, rfl⟩
  rw [← hT] at h0 hq
  obtain ⟨R, hR⟩ : ∃ R, R = rtCells r := ⟨_, rfl⟩
  rw [← hR] at hrl h0 ⊢
  have k0 : (w.alloc (.cells R.toArray 42)).cell? ⟨w.heap.size, 0, none⟩ = some (.int .u64 T) := by rw [(Blk.new w 42 R).cell]; exact h0
  have hbb := below_box w (.cells R.toArray 42)
  have kB : (w.alloc (.cells R.toArray 42)).cell? ⟨B, 0, none⟩ = some (.int .u64 v) := by rw [hbb.cell (p := ⟨B, 0, none⟩) (World.block_lt_of_cell? w _ hB)]; exact hB
  have HB := hid (And.intro hbb hq)
  clear hT hR h hq hbb hB
  go_enter Tryz.func56, Tryz.ntmps56
  go_wp2_with fail
  go_ret
  refine ⟨?_, HB.out.1⟩
  rw [HB.out.2]
  have : ((T : Int) == (v : Int)) = decide (T = v) := by
    by_cases h : T = v
    · subst h; simp
    · rw [decide_eq_false h, beq_eq_false_iff_ne]; omega
  first | rfl | (rw [← this]; rfl) | (simp)
set_option maxHeartbeats 1000000 in
set_option maxRecDepth 100000 in
theorem idxroot_any [Inhabited LoT] (rs : List Rt) (hok : ∀ r ∈ rs, RtOk r) (m : Nat) (hm : rs.length = m) (hm20 : m < 1048576) (A : Option Addr) (c : Nat) (B v k : Nat) (hk : k < m) (hno : ∀ i (hi : i < rs.length), i < k → rs[i].size ≠ v) (hyes : ∀ (hi : k < rs.length), rs[k].size = v) (w : World) (hA : Rd w A (rtRow rs).flatten) (hB : w.cell? ⟨B, 0, none⟩ = some (.int .u64 v)) :
    Calls Tryz.prog 55 #[.slice A m c, pastFn B] w fun e w' => e = .returned (.int .i64 k) ∧ Below w.heap.size w w' := by
  have HA := hid (And.intro hA (And.intro hok (And.intro hm (And.intro hno (And.intro hyes hB)))))
  clear hA hok hm hno hyes hB
  go_enter Tryz.func55, Tryz.ntmps55
  go_wp2_with fail
  go_loopg [8] m (fun g i wr => ∃ j : Nat, j + g = m ∧ j ≤ k ∧ i = .int .i64 j ∧ Below w.heap.size w wr)
  case atStart => exact ⟨0, by omega, Nat.zero_le _, rfl, Below.refl _ _⟩
  case round =>
    obtain ⟨j, hj, hjk, rfl, hbl⟩ := hrel
    have HR := hid hbl
    have hlt : j < m := by omega
    have hjr : j < rs.length := by rw [HA.out.2.2.1]; exact hlt
    have h65 := rtRow_len HA.out.2.1
    have hjl : j < (rtRow rs).length := by unfold rtRow; rw [List.length_map]; exact hjr
    obtain ⟨g, o, rfl, hr⟩ := HA.out.1 (by
      intro e
      have := flatten_len 65 _ h65
      rw [e] at this
      simp at this; omega)
    have hp := range_part hr h65 j hjl
    have hej : (rtRow rs)[j] = rtCells rs[j] := by simp [rtRow]
    rw [hej] at hp
    have hrk := HA.out.2.1 rs[j] (List.getElem_mem hjr)
    have hrl := rt_len hrk
    have kB : wr.cell? ⟨B, 0, none⟩ = some (.int .u64 v) := by rw [hbl.cell (p := ⟨B, 0, none⟩) (World.block_lt_of_cell? w _ HA.out.2.2.2.2.2)]; exact HA.out.2.2.2.2.2
    obtain ⟨r, hrr⟩ : ∃ r, r = rs[j] := ⟨_, rfl⟩
    have hy : j = k → true = decide (r.size = v) := fun e => by subst e; rw [hrr]; exact (decide_eq_true (HA.out.2.2.2.2.1 hjr)).symm
    have hz : j < k → false = decide (r.size = v) := fun e => by rw [hrr]; exact (decide_eq_false (HA.out.2.2.2.1 j hjr e)).symm
    rw [← hrr] at hrk hrl hp
    have hc1 := fun e : j = k => past1_any r hrk B v true (hy e) wr kB
    have hc2 := fun e : j < k => past1_any r hrk B v false (hz e) wr kB
    obtain ⟨R, hR⟩ : ∃ R, R = rtCells r := ⟨_, rfl⟩
    rw [← hR] at hp hrl hc1 hc2
    have hp2 := range_below hp HR.out (range_lt hp (by omega))
    have HC := hid (And.intro hc1 hc2)
    clear hbl hy hz hc1 hc2 hr hp hej hR hrk kB h65 hrr
    by_cases he : j = k
    · have hcc := HC.out.1 he
      have HX := hid (And.intro he hcc)
      clear he hcc
      go_wp2_with (first
        | ((with_reducible refine ld_mid 42 (.tmp 14) g (o + j * 65) R 65 _ hrl hp2 Tryz.underlying42 rfl (by kernel_rfl) ?_ ?_ ?_ ?_); rfl; rfl; rfl)
        | (go_at_call 56
           refine HX.out.2.mono ?_
           rintro e w5 ⟨rfl, hb5⟩
           have H5 := hid hb5
           clear hb5))
      go_ret
      exact ⟨by rw [← HX.out.1]; rfl, gro HR.out H5.out⟩
    · have hjk2 : j < k := by omega
      have hcc := HC.out.2 hjk2
      have HX := hid hcc
      clear he hcc
      go_wp2_with (first
        | ((with_reducible refine ld_mid 42 (.tmp 14) g (o + j * 65) R 65 _ hrl hp2 Tryz.underlying42 rfl (by kernel_rfl) ?_ ?_ ?_ ?_); rfl; rfl; rfl)
        | (go_at_call 56
           refine HX.out.mono ?_
           rintro e w5 ⟨rfl, hb5⟩
           have H5 := hid hb5
           clear hb5))
      go_roundg (gk - 1)
      case measure => omega
      case rel => exact ⟨j + 1, by omega, by omega, by go_num, gro HR.out H5.out⟩
end Go.Proofs.YtpnakfeafekneaaGreatDoor

namespace Go.Proofs.YtpnakfeafekneaaGreatDoor
open Go.RowKit
def Pre (n : Nat) (es : List Ent) (rs : List Rt) : Prop := ∀ r ∈ rs, r = Sn.root n (es.take r.size) ∧ r.size ≤ es.length
theorem take_flat {α : Type} (bs : List (List α)) (i : Nat) : bs.flatten.take (bs.take i).flatten.length = (bs.take i).flatten := by
  conv => lhs; rw [show bs.flatten = (bs.take i).flatten ++ (bs.drop i).flatten from by rw [← List.flatten_append, List.take_append_drop]]
  rw [List.take_left']
  rfl
theorem Rbs_pre [Inhabited LoT] (n : Nat) (bs : List (List Ent)) (k : Nat) : Pre n bs.flatten (Rbs n bs k) := by
  intro r hr
  unfold Rbs at hr
  obtain ⟨i, -, rfl⟩ := List.mem_map.1 hr
  refine ⟨?_, flatten_take_le bs i⟩
  show Sn.root n (bs.take i).flatten = Sn.root n (bs.flatten.take (bs.take i).flatten.length)
  rw [take_flat]
theorem first_size (rs : List Rt) (v : Nat) (h : ∃ r ∈ rs, r.size = v) : ∃ k, ∃ hk : k < rs.length, rs[k].size = v ∧ ∀ i (hi : i < rs.length), i < k → rs[i].size ≠ v := by
  obtain ⟨r, hr, hrv⟩ := h
  have hlt : rs.findIdx (fun r => decide (r.size = v)) < rs.length := List.findIdx_lt_length_of_exists ⟨r, hr, by simp [hrv]⟩
  refine ⟨rs.findIdx (fun r => decide (r.size = v)), hlt, ?_, fun i hi hik => ?_⟩
  · have := List.findIdx_getElem (w := hlt)
    simpa using this
  · have := List.not_of_lt_findIdx hik
    simpa using this
set_option maxHeartbeats 2000000 in
set_option maxRecDepth 100000 in
theorem spast_any [Inhabited LoT] (S b n : Nat) (es : List Ent) (rs : List Rt) (m v : Nat) (w : World) (hs : SnapAt S w n b es rs) (hpre : Pre n es rs) (hm : rs.length = m) (hm20 : m < 1048576) (hel : es.length < 1048576) (hv : ∃ r ∈ rs, r.size = v) :
    Calls Tryz.prog 32 #[ptr b, .int .u64 v] w fun e w' => e = .returned (.tuple #[.agg (rtCells (Sn.root n (es.take v))).toArray, .int .i64 0]) ∧ Below w.heap.size w w' := by
  obtain ⟨tb, mb, Ae, ce, Le, Ap, cp, hb, -, -, -, ⟨hp1, hp2, -⟩, hlast, hok⟩ := hs
  obtain ⟨k, hk, hyes, hno⟩ := first_size rs v hv
  have hrk := hok rs[k] (List.getElem_mem hk)
  have hpk := hpre rs[k] (List.getElem_mem hk)
  rw [hyes] at hpk
  have hve : v ≤ es.length := hpk.2
  have hsz : ∀ w', Below w.heap.size w w' → Calls Tryz.prog 47 #[ptr b] w' fun e w'' => e = .returned (.int .u64 es.length) ∧ Below w'.heap.size w' w'' := fun (w' : World) (h : Below w.heap.size w w') => ssize_any b Ap cp rs (Sn.root n es) w' (by rw [(hb.grown h).cell]; rfl) (hp1.grown h) hok hlast (by omega)
  obtain ⟨g, o, rfl, hr⟩ := hp1 (by
    intro e
    have := flatten_len 65 _ (rtRow_len hok)
    rw [e] at this
    simp [rtRow] at this; omega)
  have hix : ∀ w', Below w.heap.size w w' → ∀ B, w'.cell? ⟨B, 0, none⟩ = some (.int .u64 v) → Calls Tryz.prog 55 #[.slice (some ⟨g, o, none⟩) m cp, pastFn B] w' fun e w'' => e = .returned (.int .i64 k) ∧ Below w'.heap.size w' w'' := fun w' h B hB => idxroot_any rs hok m hm hm20 _ cp B v k (by omega) hno (fun _ => hyes) w' (hp1.grown h) hB
  have hjl : k < (rtRow rs).length := by unfold rtRow; rw [List.length_map]; exact hk
  have hp := range_part hr (rtRow_len hok) k hjl
  rw [show (rtRow rs)[k] = rtCells rs[k] by simp [rtRow]] at hp
  have hrl := rt_len hrk
  have hoc := rt_oc rs[k]
  have hrr : rtCells rs[k] = rtCells (Sn.root n (es.take v)) := by rw [← hpk.1]
  rw [hrr] at hp hrl hoc
  obtain ⟨R, hR⟩ : ∃ R, R = rtCells (Sn.root n (es.take v)) := ⟨_, rfl⟩
  rw [← hR] at hp hrl hoc ⊢
  obtain ⟨N, hN⟩ : ∃ N, N = es.length := ⟨_, rfl⟩
  rw [← hN] at hsz hve
  have hki : (0 : Int) ≤ (k : Int) ∧ (k : Int) < (m : Int) := by omega
  have hkn : ¬ (k : Int) < 0 := by omega
  have hvN : ¬ (N : Int) < (v : Int) := by omega
  have hb' : Blk w b 100 [ptr tb, ptr mb, .slice Ae es.length ce, .slice (some ⟨g, o, none⟩) m cp] := by rw [hm] at hb; exact hb
  have HA := hid (And.intro hsz (And.intro hix (And.intro hp (And.intro hb' hoc))))
  clear hsz hix hp hb hb' hoc hr hR hrr hrk hpk hyes hno hv hok hlast hp1 hp2 hpre hN hm hve hel hk
  have hB1 := (Blk.new w 38 [.int .u64 v]).alloc (.cells (.int .u64 0 :: List.replicate 64 (b8 0)).toArray 42)
  have hB2 := Blk.new (w.alloc (.cells [Value.int .u64 v].toArray 38)) 42 (.int .u64 0 :: List.replicate 64 (b8 0))
  rw [show (w.alloc (.cells [Value.int .u64 v].toArray 38)).heap.size = w.heap.size + 1 by simp] at hB2
  have HB0 := hid (And.intro hB1 (And.intro hB2 (gro (below_box w (.cells [Value.int .u64 v].toArray 38)) (below_box _ (.cells (.int .u64 0 :: List.replicate 64 (b8 0)).toArray 42)))))
  clear hB1 hB2
  go_enter Tryz.func32, Tryz.ntmps32
  go_upto_region 1 with fail
  refine wp_world (fun w' => Blk w' w.heap.size 38 [.int .u64 v] ∧ Blk w' (w.heap.size + 1) 42 (.int .u64 0 :: List.replicate 64 (b8 0)) ∧ Below w.heap.size w w') HB0.out ?_
  rintro w1 ⟨hb1, hb2, hbl⟩
  have HB := hid (And.intro hb1 (And.intro hb2 hbl))
  clear hb1 hb2 hbl HB0
  go_upto_region 3 with fail
  have HS : ∀ w', Below w1.heap.size w1 w' → w'.cell? ⟨w.heap.size, 0, none⟩ = some (.int .u64 v) := fun w' h => by rw [(HB.out.1.grown h).cell]; rfl
  have hd : Below w1.heap.size w1 w1.drew := (Below.refl _ _).drew
  have HT := hid (And.intro HS hd)
  clear HS hd
  go_region_held3 (fun w' => w'.cell? ⟨w.heap.size, 0, none⟩ = some (.int .u64 v))
    (first | exact HT.out.1 _ HT.out.2 | exact HT.out.1 _ H3.out.1)
    (first
      | (go_at_call 47
         refine (HA.out.1 _ (gro HB.out.2.2 HT.out.2)).mono ?_
         rintro e w3 ⟨rfl, hb3⟩
         have H3 := hid (And.intro (gro HT.out.2 hb3) True.intro)
         clear hb3))
  all_goals
    have q3 : w3.cell? ⟨b, 3, none⟩ = some (.slice (some ⟨g, o, none⟩) m cp) := by rw [(HA.out.2.2.2.1.grown (gro HB.out.2.2 H3.out.1)).cell]; rfl
    go_upto_region 8 with (
      (go_at_call 55
       refine (HA.out.2.1 _ (gro HB.out.2.2 H3.out.1) _ (HT.out.1 _ H3.out.1)).mono ?_
       rintro e w5 ⟨rfl, hb5⟩
       have H5 := hid (gro H3.out.1 hb5)
       clear hb5))
    have h15 := gro HB.out.2.2 H5.out
    have q5 : w5.cell? ⟨b, 3, none⟩ = some (.slice (some ⟨g, o, none⟩) m cp) := by rw [(HA.out.2.2.2.1.grown h15).cell]; rfl
    have hp5 := range_below HA.out.2.2.1 h15 (range_lt HA.out.2.2.1 (by omega))
    have ht := (HB.out.2.1.grown H5.out).there 0 65 (by simp)
    have hoc := HA.out.2.2.2.2
    have H6 := hid h15
    clear h15 q3
    go_wp2_with (first
      | ((with_reducible refine ld_mid 42 (.tmp 31) g (o + k * 65) R 65 _ hrl hp5 Tryz.underlying42 rfl (by kernel_rfl) ?_ ?_ ?_ ?_); rfl; rfl; rfl)
      | ((with_reducible refine st_mid 42 (.tmp 4) (.tmp 32) (w.heap.size + 1) 0 R 65 hrl ht (by kernel_rfl) hoc ?_ ?_ ?_ ?_ ?_); rfl; rfl; rfl; rfl))
    exact rt_cell_tmp (w.heap.size + 1) 0 R 65 _ hrl (World.rangeAt_setCells_same _ _ _ _ (by rw [hrl]; exact ht)) Tryz.underlying42 rfl (by kernel_rfl) rfl rfl rfl ⟨rfl, below_setCells _ (Nat.le_succ _) _ _ _ H6.out⟩
end Go.Proofs.YtpnakfeafekneaaGreatDoor

namespace Go.Proofs.YtpnakfeafekneaaGreatDoor
open Go.RowKit
set_option maxHeartbeats 1000000 in
set_option maxRecDepth 100000 in
theorem sentry_any [Inhabited LoT] (S b n : Nat) (es : List Ent) (rs : List Rt) (i : Nat) (e : Ent) (w : World) (hs : SnapAt S w n b es rs) (hrl : rs.length < 1048576) (hel : es.length < 1048576) (hi : es[i]? = some e) (hk : e.key.length < 1048576) (hv : e.val.length < 1048576) :
    Calls Tryz.prog 48 #[ptr b, .int .u64 i] w fun ee w' => ∃ y, ee = .returned (.tuple #[.agg y.toArray, .int .i64 0]) ∧ Below w.heap.size w w' ∧ EntTy w' y e := by
  obtain ⟨tb, mb, Ae, ce, Le, Ap, cp, hb, -, hm, ⟨he1, he2, -⟩, ⟨hp1, hp2, -⟩, hlast, hok⟩ := hs
  have HLO := hid (show Lo ≤ w.heap.size from Nat.le_trans hm.lo (Nat.le_of_lt hm.node.choose_spec.1.lt))
  clear hm
  have hsz : ∀ w', Below w.heap.size w w' → Calls Tryz.prog 47 #[ptr b] w' fun e w'' => e = .returned (.int .u64 es.length) ∧ Below w'.heap.size w' w'' := fun (w' : World) (h : Below w.heap.size w w') => ssize_any b Ap cp rs (Sn.root n es) w' (by rw [(hb.grown h).cell]; rfl) (hp1.grown h) hok hlast (by omega)
  have hie : i < es.length := (List.getElem?_eq_some_iff.1 hi).1
  have hil : i < Le.length := by rw [he2.len]; exact hie
  obtain ⟨g, o, rfl, hr⟩ := he1 (by
    intro e
    have := flatten_len 3 _ he2.ents.three
    rw [e] at this
    simp at this; omega)
  have hp := range_part hr he2.ents.three i hil
  have het := he2.at_ i Le[i] e (by simp [hil]) hi
  have hxl := het.len
  obtain ⟨x, hx⟩ : ∃ x, x = Le[i] := ⟨_, rfl⟩
  rw [← hx] at hp het hxl
  have htw : ∀ w', Below w.heap.size w w' → Calls Tryz.prog 71 #[.agg x.toArray] w' fun ee w'' => ∃ y, ee = .returned (.agg y.toArray) ∧ Below w'.heap.size w' w'' ∧ EntTy w'' y e := fun w' h => stwin_any x e w' (het.stay (Stay.of_grown h)).at_ hk hv (Nat.le_trans HLO.out h.size)
  obtain ⟨N, hN⟩ : ∃ N, N = es.length := ⟨_, rfl⟩
  rw [← hN] at hsz hie hb
  have hni : ¬ (N : Int) ≤ (i : Int) := by omega
  have hii : (0 : Int) ≤ (i : Int) ∧ (i : Int) < (N : Int) := by omega
  have HA := hid (And.intro hsz (And.intro htw (And.intro hp hb)))
  clear hsz htw hp hb hx het hr hil hi hk hv hok hlast hp1 hp2 he2 hN hel hrl hie
  have HB0 := hid (And.intro (Blk.new w 36 [.int .u8 0, .slice none 0 0, .slice none 0 0]) (below_box w (.cells [Value.int .u8 0, .slice none 0 0, .slice none 0 0].toArray 36)))
  go_enter Tryz.func48, Tryz.ntmps48
  go_upto_region 1 with fail
  refine wp_world (fun w' => Blk w' w.heap.size 36 [.int .u8 0, .slice none 0 0, .slice none 0 0] ∧ Below w.heap.size w w') HB0.out ?_
  rintro w1 ⟨hb1, hbl⟩
  have HB := hid (And.intro hb1 hbl)
  clear hb1 hbl HB0
  go_upto_region 5 with (
    (go_at_call 47
     refine (HA.out.1 _ HB.out.2).mono ?_
     rintro e w3 ⟨rfl, hb3⟩
     have H3 := hid hb3
     clear hb3))
  have h13 := gro HB.out.2 H3.out
  have q2 : w3.cell? ⟨b, 2, none⟩ = some (.slice (some ⟨g, o, none⟩) N ce) := by rw [(HA.out.2.2.2.grown h13).cell]; rfl
  have hp3 := range_below HA.out.2.2.1 h13 (range_lt HA.out.2.2.1 (by omega))
  have HG := hid h13
  clear h13
  go_wp2_with (first
    | ((with_reducible refine ld_mid 36 (.tmp 21) g (o + i * 3) x 3 _ hxl hp3 Tryz.underlying36 rfl (by kernel_rfl) ?_ ?_ ?_ ?_); rfl; rfl; rfl)
    | (go_at_call 71
       refine (HA.out.2.1 _ HG.out).mono ?_
       rintro e w5 ⟨y, rfl, hb5, hy⟩
       have hyl := hy.len
       have hyo := hy.oc
       have hbx := HB.out.1.grown (gro H3.out hb5)
       have ht := hbx.there 0 3 (Nat.le_refl _)
       have H5 := hid (And.intro (gro HG.out hb5) (And.intro (hy.stay (stay_sets hbx (by decide) 0 y)) True.intro))
       clear hb5 hy hbx)
    | ((with_reducible refine st_mid 36 (.tmp 4) (.tmp 23) w.heap.size 0 y 3 hyl ht (by kernel_rfl) hyo ?_ ?_ ?_ ?_ ?_); rfl; rfl; rfl; rfl))
  exact rt_cell_tmp w.heap.size 0 y 3 _ hyl (World.rangeAt_setCells_same _ _ _ _ (by rw [hyl]; exact ht)) Tryz.underlying36 rfl (by kernel_rfl) rfl rfl rfl ⟨y, rfl, below_setCells _ (Nat.le_refl _) _ _ _ H5.out.1, H5.out.2.1⟩
set_option maxHeartbeats 1000000 in
theorem sameentry_any (x y : List Value) (e : Ent) (w : World) (hx : EntAt w x e) (hy : EntAt w y e) (hk : e.key.length < 1048576) (hv : e.val.length < 1048576) :
    Calls Tryz.prog 49 #[.agg x.toArray, .agg y.toArray] w fun ee w' => ee = .returned (.bool true) ∧ Below w.heap.size w w' := by
  obtain ⟨A1, c1, A2, c2, rfl, h1, h2, -⟩ := hx
  obtain ⟨A3, c3, A4, c4, rfl, h3, h4, -⟩ := hy
  have hck : ∀ w', Below w.heap.size w w' → Calls Tryz.prog 36 #[.slice A1 e.key.length c1, .slice A3 e.key.length c3] w' fun e w'' => e = .returned (.bool true) ∧ Below w'.heap.size w' w'' := fun w' h => by
    have := same_any A1 _ c1 e.key A3 _ c3 e.key w' rfl rfl (h1.grown h) (h3.grown h) (by omega) (by omega)
    rw [beq_self_eq_true] at this; exact this
  have hcv : ∀ w', Below w.heap.size w w' → Calls Tryz.prog 36 #[.slice A2 e.val.length c2, .slice A4 e.val.length c4] w' fun e w'' => e = .returned (.bool true) ∧ Below w'.heap.size w' w'' := fun w' h => by
    have := same_any A2 _ c2 e.val A4 _ c4 e.val w' rfl rfl (h2.grown h) (h4.grown h) (by omega) (by omega)
    rw [beq_self_eq_true] at this; exact this
  obtain ⟨nk, hnk⟩ : ∃ nk, nk = e.key.length := ⟨_, rfl⟩
  obtain ⟨nv, hnv⟩ : ∃ nv, nv = e.val.length := ⟨_, rfl⟩
  rw [← hnk] at hck ⊢
  rw [← hnv] at hcv ⊢
  obtain ⟨kd, hkd⟩ : ∃ kd, kd = e.kind := ⟨_, rfl⟩
  rw [← hkd]
  have HB1 := (Blk.new w 36 [b8 kd, .slice A1 nk c1, .slice A2 nv c2]).alloc (.cells [b8 kd, .slice A3 nk c3, .slice A4 nv c4].toArray 36)
  have HB2 := Blk.new (w.alloc (.cells [b8 kd, .slice A1 nk c1, .slice A2 nv c2].toArray 36)) 36 [b8 kd, .slice A3 nk c3, .slice A4 nv c4]
  rw [show (w.alloc (.cells [b8 kd, .slice A1 nk c1, .slice A2 nv c2].toArray 36)).heap.size = w.heap.size + 1 by simp] at HB2
  have HB0 := hid (And.intro HB1 (And.intro HB2 (gro (below_box w (.cells [b8 kd, .slice A1 nk c1, .slice A2 nv c2].toArray 36)) (below_box _ (.cells [b8 kd, .slice A3 nk c3, .slice A4 nv c4].toArray 36)))))
  have HC := hid (And.intro hck hcv)
  clear hck hcv h1 h2 h3 h4 hnk hnv hkd HB1 HB2 hk hv
  go_enter Tryz.func49, Tryz.ntmps49
  go_upto_region 1 with fail
  refine wp_world (fun w' => Blk w' w.heap.size 36 [b8 kd, .slice A1 nk c1, .slice A2 nv c2] ∧ Blk w' (w.heap.size + 1) 36 [b8 kd, .slice A3 nk c3, .slice A4 nv c4] ∧ Below w.heap.size w w') HB0.out ?_
  rintro w1 ⟨hb1, hb2, hbl⟩
  have a0 : w1.cell? ⟨w.heap.size, 0, none⟩ = some (b8 kd) := by rw [hb1.cell]; rfl
  have a1 : w1.cell? ⟨w.heap.size, 1, none⟩ = some (.slice A1 nk c1) := by rw [hb1.cell]; rfl
  have d0 : w1.cell? ⟨w.heap.size + 1, 0, none⟩ = some (b8 kd) := by rw [hb2.cell]; rfl
  have d1 : w1.cell? ⟨w.heap.size + 1, 1, none⟩ = some (.slice A3 nk c3) := by rw [hb2.cell]; rfl
  have HB := hid (And.intro hb1 (And.intro hb2 hbl))
  clear hb1 hb2 hbl HB0
  go_wp2_with (first
    | (go_at_call 36
       refine (HC.out.2 _ H2.out.2.2).mono ?_
       rintro e w3 ⟨rfl, hb3⟩
       have H3 := hid (gro H2.out.2.2 hb3)
       clear hb3)
    | (go_at_call 36
       refine (HC.out.1 _ HB.out.2.2).mono ?_
       rintro e w2 ⟨rfl, hb3⟩
       have e1 : w2.cell? ⟨w.heap.size, 2, none⟩ = some (.slice A2 nv c2) := (by rw [(HB.out.1.grown hb3).cell]; rfl)
       have e2 : w2.cell? ⟨w.heap.size + 1, 2, none⟩ = some (.slice A4 nv c4) := (by rw [(HB.out.2.1.grown hb3).cell]; rfl)
       have H2 := hid (And.intro True.intro (And.intro True.intro (gro HB.out.2.2 hb3)))
       clear hb3))
  go_ret
  exact ⟨rfl, H3.out⟩
end Go.Proofs.YtpnakfeafekneaaGreatDoor

namespace Go.Proofs.YtpnakfeafekneaaGreatDoor
open Go.RowKit
theorem run_slice_to_u {T e : TypeId} {size : Nat} {P : Program} (hT : P.underlying T = some (.slice e)) (hs : (P.info? e).map (·.size) = some size) (A : Option Addr) (n c k : Nat) (hk : k ≤ c) :
    ∃ A', (∀ w, (Instr.slice T (.slice A n c) none (some (.int .u64 k)) none).run P w = .ok (.slice A' k c) w) ∧ (∀ b o, A = some ⟨b, o, none⟩ → A' = A) := by
  have h1 : (0 : Int) ≤ (k : Int) ∧ (k : Int) ≤ (c : Int) := by omega
  refine ⟨if c = 0 then A else A.map (·.add 0), fun w => ?_, fun b o e => ?_⟩
  · by_cases h0 : c = 0
    · simp [Instr.slice, run_underlying hT, Instr.sliceBounds, Instr.sliceBound, asIntOf, sizeOf_run hs, h1, h0]
      omega
    · simp [Instr.slice, run_underlying hT, Instr.sliceBounds, Instr.sliceBound, asIntOf, sizeOf_run hs, h1, h0]
      omega
  · subst e
    split
    · rfl
    · simp [Addr.add_mid]
theorem rd_take9 {w : World} {A A' : Option Addr} {L : List (List Value)} (hA : ∀ b o, A = some ⟨b, o, none⟩ → A' = A) (h : Rd w A L.flatten) (k : Nat) : Rd w A' (L.take k).flatten := by
  have e : L.flatten = (L.take k).flatten ++ (L.drop k).flatten := by rw [← List.flatten_append, List.take_append_drop]
  rw [e] at h
  intro hne
  obtain ⟨g, o, hg, hr⟩ := h (fun h => hne (List.append_eq_nil_iff.1 h).1)
  exact ⟨g, o, by rw [hA g o hg, hg], (range_halves hr).1⟩
theorem swidth_snap [Inhabited LoT] {S n b : Nat} {es : List Ent} {rs : List Rt} (w : World) (h : SnapAt S w n b es rs) :
    Calls Tryz.prog 46 #[ptr b] w fun e w' => e = .returned (.int .i64 n) ∧ w = w' := by
  obtain ⟨tb, mb, A, c, L, Ap, cp, h1, h2, -⟩ := h
  exact swidth_any b tb n _ w (by rw [h1.cell]; rfl) h2
theorem ssize_snap [Inhabited LoT] {S n b : Nat} {es : List Ent} {rs : List Rt} (w : World) (h : SnapAt S w n b es rs) (hn : rs.length < 1048576) :
    Calls Tryz.prog 47 #[ptr b] w fun e w' => e = .returned (.int .u64 es.length) ∧ Below w.heap.size w w' := by
  obtain ⟨tb, mb, A, c, L, Ap, cp, h1, h2, h3, ⟨h4, h5, h6⟩, ⟨h7, h8, h8'⟩, h9, h10⟩ := h
  exact ssize_any b Ap cp rs (Sn.root n es) w (by rw [h1.cell]; rfl) h7 h10 h9 hn
set_option maxHeartbeats 4000000 in
set_option maxRecDepth 100000 in
theorem alike_any [Inhabited LoT] (S b n : Nat) (h1 : 1 ≤ n) (h2 : n ≤ 32) (es : List Ent) (rs : List Rt) (N M : Nat) (Al : Option Addr) (cl : Nat) (L : List (List Value)) (As : Option Addr) (cs : Nat) (w : World) (hs : SnapAt S w n b es rs) (hpre : Pre n es rs) (hN : es.length = N) (hM : rs.length = M) (hNb : N < 65536) (hMb : M < 1048576) (hNc : N ≤ cl) (hA : Rd w Al L.flatten) (hE : EntsAt w L es) (hS : Rd w As (rtSz rs)) (hkv : ∀ e ∈ es, e.key.length < 1048576 ∧ e.val.length < 1048576) :
    Calls Tryz.prog 21 #[.int .i64 n, ptr b, .slice Al N cl, .slice As M cs] w fun e w' => e = .returned (.bool true) ∧ Below w.heap.size w w' := by
  have hok0 := Sn.root_ok2 n h2 es (by omega)
  have hne0 := run_neq_root _ hok0
  have hwN : IntKind.u64.wrap (N : Int) = (N : Int) := by rw [IntKind.wrap_u64]; omega
  have hroot := fun (w' : World) (h : Below w.heap.size w w') => snroot_any w' (hs.grown h) (by omega)
  have hrof := fun (w' : World) (h : Below w.heap.size w w') => rrootof_any n h2 es Al N cl L w' hN (hA.grown h) (hE.grown h) hNb hkv
  have hwid := fun (w' : World) (h : Below w.heap.size w w') => swidth_snap w' (hs.grown h)
  have hsiz := fun (w' : World) (h : Below w.heap.size w w') => ssize_snap w' (hs.grown h) (by omega)
  have hszs := fun (w' : World) (h : Below w.heap.size w w') => ssizes_any S b n es rs M w' (hs.grown h) hM hMb
  rw [hN] at hsiz
  obtain ⟨R0, hR0⟩ : ∃ R, R = rtCells (Sn.root n es) := ⟨_, rfl⟩
  rw [← hR0] at hne0 hroot hrof
  have HC := hid (And.intro hwid (And.intro hsiz (And.intro hroot (And.intro hrof hszs))))
  have HA := hid (And.intro hs (And.intro hpre (And.intro hN (And.intro hM (And.intro hA (And.intro hE (And.intro hS (And.intro hkv h2))))))))
  clear hwid hsiz hroot hrof hszs hs hpre hN hM hA hE hS hkv hR0 hok0 h1 h2
  go_enter Tryz.func21, Tryz.ntmps21
  go_wp2_with (first
    | (go_at_call 31
       refine (HC.out.2.2.2.2 _ H3.out).mono ?_
       rintro e w4 ⟨Ac, cc, rfl, hb4, hr4⟩
       have H4 := hid (And.intro (gro H3.out hb4) hr4)
       clear hb4 hr4)
    | (go_at_call 37
       refine (HC.out.2.2.2.1 _ H2.out).mono ?_
       rintro e w3 ⟨rfl, hb3⟩
       have H3 := hid (gro H2.out hb3)
       clear hb3)
    | (go_at_call 29
       refine (HC.out.2.2.1 _ H1.out).mono ?_
       rintro e w2 ⟨rfl, hb2⟩
       have H2 := hid (gro H1.out hb2)
       clear hb2)
    | (go_at_call 47
       refine (HC.out.2.1 _ (Below.refl _ _)).mono ?_
       rintro e w1 ⟨rfl, hb1⟩
       have H1 := hid hb1
       clear hb1)
    | (go_at_call 46
       refine (HC.out.1 _ (Below.refl _ _)).mono ?_
       rintro e w0 ⟨rfl, rfl⟩))
  go_loopg [10] M (fun g i wr => ∃ j : Nat, j + g = M ∧ i = .int .i64 j ∧ Below w4.heap.size w4 wr)
  case atStart => exact ⟨0, by omega, rfl, Below.refl _ _⟩
  case round =>
    obtain ⟨j, hj, rfl, hbl⟩ := hrel
    have HR := hid (And.intro hbl (gro H4.out.1 hbl))
    clear hbl
    by_cases hlt : j < M
    · have hjr : j < rs.length := by rw [HA.out.2.2.2.1]; exact hlt
      have hrk := HA.out.2.1 rs[j] (List.getElem_mem hjr)
      obtain ⟨v, hv⟩ : ∃ v, v = rs[j].size := ⟨_, rfl⟩
      have hex : ∃ r ∈ rs, r.size = v := ⟨rs[j], List.getElem_mem hjr, hv.symm⟩
      rw [← hv] at hrk
      have hvN : v ≤ N := by have := HA.out.2.2.1; omega
      have hvc : (0 : Int) ≤ (v : Int) ∧ (v : Int) ≤ (cl : Int) := by omega
      have hget : (rtSz rs)[j]? = some (.int .u64 v) := by unfold rtSz; rw [List.getElem?_map, List.getElem?_eq_getElem hjr, hv]; rfl
      have hnn : rtSz rs ≠ [] := fun e => by rw [e] at hget; simp at hget
      obtain ⟨gs, os, rfl, hrs⟩ := HA.out.2.2.2.2.2.2.1 hnn
      obtain ⟨gc, oc, rfl, hrc⟩ := H4.out.2 hnn
      have ks : wr.cell? ⟨gs, os + j, none⟩ = some (.int .u64 v) := by
        have h5 := hrs j _ hget
        rw [HR.out.2.cell (p := ⟨gs, os + j, none⟩) (World.block_lt_of_cell? w _ h5)]; exact h5
      have kc : wr.cell? ⟨gc, oc + j, none⟩ = some (.int .u64 v) := by
        have h5 := hrc j _ hget
        rw [HR.out.1.cell (p := ⟨gc, oc + j, none⟩) (World.block_lt_of_cell? w4 _ h5)]; exact h5
      have hpast := spast_any S b n es rs M v wr (HA.out.1.grown HR.out.2) HA.out.2.1 HA.out.2.2.2.1 hMb (by have := HA.out.2.2.1; omega) hex
      have hok := Sn.root_ok2 n HA.out.2.2.2.2.2.2.2.2 (es.take v) (by rw [List.length_take]; have := HA.out.2.2.1; omega)
      have hrl := rt_len hok
      have hoc := rt_oc (Sn.root n (es.take v))
      have hneq := run_neq_root _ hok
      obtain ⟨Av, hsl, hAv⟩ := run_slice_to_u (P := Tryz.prog) Tryz.underlying22 (e := 36) (size := 3) (by kernel_rfl) Al N cl v (by omega)
      have hrof : ∀ w', Below w.heap.size w w' → Calls Tryz.prog 37 #[.int .i64 n, .slice Av v cl] w' fun e w'' => e = .returned (.agg (rtCells (Sn.root n (es.take v))).toArray) ∧ Below w'.heap.size w' w'' := fun w' h => rrootof_any n HA.out.2.2.2.2.2.2.2.2 (es.take v) Av v cl (L.take v) w' (by rw [List.length_take]; have := HA.out.2.2.1; omega) ((rd_take9 hAv HA.out.2.2.2.2.1 v).grown h) ((ents_take (HA.out.2.2.2.2.2.1) v).grown h) (by omega) (fun e he => HA.out.2.2.2.2.2.2.2.1 e (List.mem_of_mem_take he))
      obtain ⟨R, hR⟩ : ∃ R, R = rtCells (Sn.root n (es.take v)) := ⟨_, rfl⟩
      rw [← hR] at hpast hrl hoc hneq hrof
      have HX := hid (And.intro hpast (And.intro hrof (And.intro ks kc)))
      clear hpast hrof kc hR hok hAv hrs hrc hget hnn hrk hv hex
      go_upto_region 10 with (first
        | (go_at_call 32
           refine HX.out.1.mono ?_
           rintro e w5 ⟨rfl, hb5⟩
           have H5 := hid hb5
           clear hb5)
        | ((with_reducible refine st_new 42 (.tmp 11) (.tmp 60) _ _ R 65 hrl ?_ (by kernel_rfl) hoc ?_ ?_ ?_ ?_ ?_); rfl; rfl; rfl; rfl; rfl))
      obtain ⟨w6, hw6⟩ : ∃ w6, w6 = w5.alloc (.cells R.toArray 42) := ⟨_, rfl⟩
      have hb6 : Below wr.heap.size wr w6 := by rw [hw6]; exact gro H5.out (below_box _ _)
      have hp6 : w6.rangeAt w5.heap.size 0 R := by rw [hw6]; exact (Blk.new w5 42 R).whole
      rw [← hw6]
      have qs := Fut.cell (w := w6) (show w6.cell? ⟨gs, os + j, none⟩ = some (.int .u64 v) from by rw [hb6.cell (p := ⟨gs, os + j, none⟩) (World.block_lt_of_cell? wr _ HX.out.2.2.1)]; exact HX.out.2.2.1)
      have qc := Fut.cell (w := w6) (show w6.cell? ⟨gc, oc + j, none⟩ = some (.int .u64 v) from by rw [hb6.cell (p := ⟨gc, oc + j, none⟩) (World.block_lt_of_cell? wr _ HX.out.2.2.2)]; exact HX.out.2.2.2)
      have hrf : ∀ s : Fut w6, Calls Tryz.prog 37 #[.int .i64 n, .slice Av v cl] s.v fun e w'' => e = .returned (.agg R.toArray) ∧ ∃ s' : Fut w6, w'' = s'.v := fun s => Calls.fut_of (HX.out.2.1 s.v (gro HR.out.2 (gro hb6 s.below)))
      have H6 := hid (And.intro hb6 (And.intro (range_fut hp6) hrf))
      clear hb6 hp6 hrf hw6 ks
      refine wp_region_fut (by kernel_rfl) (by kernel_rfl) ?_
      repeat (first
        | (go_big_quiet_want; (with_reducible refine quiet_ld 42 (.tmp 11) w5.heap.size 0 R 65 _ hrl H6.out.2.1 Tryz.underlying42 rfl (by kernel_rfl) ?_ ?_ ?_); rfl; rfl; simp only [Act.put, List.setIfInBounds_toArray, List.set_cons_zero, List.set_cons_succ]; go_big_quiet_on)
        | go_big_quiet_step (with_reducible exact H6.out.2.2 _))
      refine wpQuiet_nil ?_
      rintro _ ⟨s, rfl⟩
      go_wp2_with fail
      go_roundg (gk - 1)
      case measure => omega
      case rel => exact ⟨j + 1, by omega, by first | rfl | (rw [wrap_succ j (by omega)]) | go_num, gro HR.out.1 (gro H6.out.1 s.below)⟩
    · obtain rfl : j = M := by omega
      have HW := hid HR.out.2
      clear HR
      go_wp2_with fail
      go_loopg [13] N (fun g i wx => ∃ q : Nat, q + g = N ∧ i = .int .i64 q ∧ Below w.heap.size w wx)
      case atStart => exact ⟨0, by omega, rfl, HW.out⟩
      case round =>
        obtain ⟨q, hq, rfl, hbx⟩ := hrel
        have HR := hid hbx
        clear hbx
        by_cases hqN : q < N
        · have hqe : q < es.length := by rw [HA.out.2.2.1]; exact hqN
          have hkv := HA.out.2.2.2.2.2.2.2.1 es[q] (List.getElem_mem hqe)
          have hent := sentry_any S b n es rs q es[q] wr (HA.out.1.grown HR.out) (by have := HA.out.2.2.2.1; omega) (by have := HA.out.2.2.1; omega) (by simp [hqe]) hkv.1 hkv.2
          have hqL : q < L.length := by have := HA.out.2.2.2.2.2.1.len; omega
          obtain ⟨g, o, rfl, hr⟩ := HA.out.2.2.2.2.1 (by
            intro e
            have := flatten_len 3 _ HA.out.2.2.2.2.2.1.three
            rw [e] at this
            simp at this; omega)
          have hp := range_part hr HA.out.2.2.2.2.2.1.three q hqL
          have hat := HA.out.2.2.2.2.2.1.at_ q L[q] es[q] (by simp [hqL]) (by simp [hqe])
          obtain ⟨x, hx⟩ : ∃ x, x = L[q] := ⟨_, rfl⟩
          rw [← hx] at hp hat
          have hxl : x.length = 3 := HA.out.2.2.2.2.2.1.three x (by rw [hx]; exact List.getElem_mem hqL)
          have hwq : IntKind.u64.wrap (q : Int) = (q : Int) := by rw [IntKind.wrap_u64]; omega
          have hsame : ∀ (y : List Value) (w' : World), Below w.heap.size w w' → EntAt w' y es[q] → Calls Tryz.prog 49 #[.agg y.toArray, .agg x.toArray] w' fun ee w'' => ee = .returned (.bool true) ∧ Below w'.heap.size w' w'' := fun y w' h hy => sameentry_any y x es[q] w' hy (hat.grown h) hkv.1 hkv.2
          have HX := hid (And.intro hent (And.intro hsame hp))
          clear hent hsame hp hx hat hr hkv
          go_upto_region 16 with (first
            | (go_at_call 48
               refine HX.out.1.mono ?_
               rintro e w5 ⟨y, rfl, hb5, hy5⟩
               have hyl := hy5.len
               have hyo := hy5.oc
               have H5 := hid (And.intro hb5 hy5)
               clear hb5 hy5)
            | ((with_reducible refine st_new 36 (.tmp 14) (.tmp 98) _ _ y 3 hyl ?_ (by kernel_rfl) hyo ?_ ?_ ?_ ?_ ?_); rfl; rfl; rfl; rfl; rfl))
          obtain ⟨w6, hw6⟩ : ∃ w6, w6 = w5.alloc (.cells y.toArray 36) := ⟨_, rfl⟩
          have hb56 : Below w5.heap.size w5 w6 := by rw [hw6]; exact below_box _ _
          have hb6 := gro H5.out.1 hb56
          have hp6 : w6.rangeAt w5.heap.size 0 y := by rw [hw6]; exact (Blk.new w5 36 y).whole
          rw [← hw6]
          have h16 := gro HR.out hb6
          have hx6 := range_below HX.out.2.2 h16 (range_lt HX.out.2.2 (by omega))
          have hsf : ∀ s : Fut w6, Calls Tryz.prog 49 #[.agg y.toArray, .agg x.toArray] s.v fun ee w'' => ee = .returned (.bool true) ∧ ∃ s' : Fut w6, w'' = s'.v := fun s => Calls.fut_of (HX.out.2.1 y s.v (gro h16 s.below) (H5.out.2.stay (Stay.of_grown (gro hb56 s.below))).at_)
          have H6 := hid (And.intro h16 (And.intro (range_fut hp6) (And.intro (range_fut hx6) hsf)))
          clear hb56 hb6 hp6 h16 hx6 hsf hw6
          refine wp_region_fut (by kernel_rfl) (by kernel_rfl) ?_
          repeat (first
            | (go_big_quiet_want; (with_reducible refine quiet_ld 36 (.tmp 14) w5.heap.size 0 y 3 _ hyl H6.out.2.1 Tryz.underlying36 rfl (by kernel_rfl) ?_ ?_ ?_); rfl; rfl; simp only [Act.put, List.setIfInBounds_toArray, List.set_cons_zero, List.set_cons_succ]; go_big_quiet_on)
            | (go_big_quiet_want; (with_reducible refine quiet_ld 36 (.tmp 106) g (o + q * 3) x 3 _ hxl H6.out.2.2.1 Tryz.underlying36 rfl (by kernel_rfl) ?_ ?_ ?_); rfl; rfl; simp only [Act.put, List.setIfInBounds_toArray, List.set_cons_zero, List.set_cons_succ]; go_big_quiet_on)
            | go_big_quiet_step (with_reducible exact H6.out.2.2.2 _))
          refine wpQuiet_nil ?_
          rintro _ ⟨s, rfl⟩
          go_wp2_with fail
          go_roundg (gk - 1)
          case measure => omega
          case rel => exact ⟨q + 1, by omega, by first | rfl | (rw [wrap_succ q (by omega)]) | go_num, gro H6.out.1 s.below⟩
        · obtain rfl : q = N := by omega
          go_wp2_with fail
          go_ret
          exact ⟨rfl, HR.out⟩
end Go.Proofs.YtpnakfeafekneaaGreatDoor

namespace Go.Proofs.YtpnakfeafekneaaGreatDoor
open Go.RowKit
structure BatsTy (w : World) (X : List (List Value)) (Fs : List Nat) (bs : List (List Ent)) : Prop where
  len : X.length = bs.length
  lenF : Fs.length = bs.length
  at_ : ∀ (i : Nat) (x : List Value) (F : Nat) (b : List Ent), X[i]? = some x → Fs[i]? = some F → bs[i]? = some b → BatTy w x F b
theorem BatsTy.grown {w w' : World} {X : List (List Value)} {Fs : List Nat} {bs : List (List Ent)} (h : BatsTy w X Fs bs) (hb : Below w.heap.size w w') : BatsTy w' X Fs bs := ⟨h.len, h.lenF, fun i x F b h1 h2 h3 => (h.at_ i x F b h1 h2 h3).grown hb⟩
theorem BatsTy.but {x : TypeId} (hx : 5 ≠ x) (hx2 : 36 ≠ x) {w w' : World} (hb : But x w w') {X : List (List Value)} {Fs : List Nat} {bs : List (List Ent)} (h : BatsTy w X Fs bs) : BatsTy w' X Fs bs := ⟨h.len, h.lenF, fun i x F b h1 h2 h3 => (h.at_ i x F b h1 h2 h3).but hx hx2 hb⟩
theorem BatsTy.snoc {w : World} {X : List (List Value)} {Fs : List Nat} {bs : List (List Ent)} {y : List Value} {F : Nat} {b : List Ent} (h : BatsTy w X Fs bs) (hy : BatTy w y F b) : BatsTy w (X ++ [y]) (Fs ++ [F]) (bs ++ [b]) := by
  refine ⟨by simp [h.len], by simp [h.lenF], fun i x F' b' h1 h2 h3 => ?_⟩
  have hl := h.len; have hl2 := h.lenF
  by_cases hi : i < bs.length
  · rw [List.getElem?_append_left (by omega)] at h1 h2 h3
    exact h.at_ i x F' b' h1 h2 h3
  · have hi2 : i = bs.length := by
      have := (List.getElem?_eq_some_iff.1 h3).1
      simp at this; omega
    subst hi2
    rw [List.getElem?_append_right (by omega)] at h1 h2 h3
    simp [hl, hl2] at h1 h2 h3
    subst h1; subst h2; subst h3; exact hy
theorem info_batch : (Tryz.prog.info? 47).map (fun i => (i.zero, i.size, i.bytes)) = some (some (.agg #[.int .u64 0, .slice none 0 0]), 2, 32) := by kernel_rfl
theorem Bl.least (Fs : List Nat) (bs : List (List Ent)) (m : Nat) : ∃ i0, i0 ≤ m ∧ (∀ i, i < i0 → Bl.err Fs bs i = 0) ∧ (i0 < m → Bl.err Fs bs i0 ≠ 0) := by
  induction m with
  | zero => exact ⟨0, Nat.le_refl _, fun i h => by omega, fun h => by omega⟩
  | succ m ih =>
    obtain ⟨i0, h1, h2, h3⟩ := ih
    rcases Nat.lt_or_ge i0 m with h | h
    · exact ⟨i0, by omega, h2, fun _ => h3 h⟩
    · have : i0 = m := by omega
      subst this
      by_cases he : Bl.err Fs bs i0 = 0
      · exact ⟨i0 + 1, Nat.le_refl _, fun i hi => by
          rcases Nat.lt_or_ge i i0 with h | h
          · exact h2 i h
          · rw [show i = i0 by omega]; exact he, fun h => by omega⟩
      · exact ⟨i0, by omega, h2, fun _ => he⟩
theorem Bl.good {Fs : List Nat} {bs : List (List Ent)} {i : Nat} (hi : i < bs.length) (hF : i < Fs.length) (h : Bl.err Fs bs i = 0) : Fs[i]? = some (bs.take i).flatten.length ∧ En.bchk (bs.take i).flatten.length bs[i] = 0 := by
  rw [Bl.at_ Fs bs i hi hF] at h
  by_cases h1 : En.bchk Fs[i] bs[i] = 0
  · rw [if_neg (by simp [h1])] at h
    by_cases h2 : Fs[i] = (bs.take i).flatten.length
    · exact ⟨by rw [List.getElem?_eq_getElem hF, h2], by rw [← h2]; exact h1⟩
    · rw [if_pos h2] at h; cases h
  · rw [if_pos h1] at h; exact absurd h h1
theorem Bl.lens [Inhabited LoT] {Fs : List Nat} {bs : List (List Ent)} (hl : Fs.length = bs.length) (h : ∀ i, i < bs.length → Bl.err Fs bs i = 0) : ∀ e ∈ bs.flatten, e.key.length < 1048576 ∧ e.val.length < 1048576 := by
  intro e he
  obtain ⟨b, hb, heb⟩ := List.mem_flatten.1 he
  obtain ⟨i, hi, rfl⟩ := List.getElem_of_mem hb
  have := (En.bchk_zero (Bl.good hi (by omega) (h i hi)).2).2.2.2 e heb
  have := En.lens _ this
  omega
theorem buildN [Inhabited LoT] (n : Nat) (h1 : 1 ≤ n) (h2 : n ≤ 32) (bs : List (List Ent)) (Fs : List Nat) (A : Option Addr) (m c : Nat) (X : List (List Value)) (w : World) (hw : Words w) (hm : bs.length = m) (hA : Rd w A X.flatten) (hX : BatsAt w X Fs bs) (hgood : ∀ i, i < m → Bl.err Fs bs i = 0) (hn : m + 2 < 1048576) (htot : bs.flatten.length < 1048576) (hlo : Lo ≤ w.heap.size) :
    Calls Tryz.prog 19 #[.int .i64 n, .slice A m c] w fun e w' => ∃ b S, e = .returned (.tuple #[ptr b, .int .i64 0]) ∧ Below w.heap.size w w' ∧ SnapAt S w' n b bs.flatten (Rbs n bs m) :=
  build_ok n h1 h2 bs Fs A m c X w hw hm hA hX (fun i hi => (Bl.good hi (by rw [hX.lenF]; exact hi) (hgood i (by omega))).1) (fun i hi => (Bl.good hi (by rw [hX.lenF]; exact hi) (hgood i (by omega))).2) hn htot hlo
end Go.Proofs.YtpnakfeafekneaaGreatDoor

namespace Go.Proofs.YtpnakfeafekneaaGreatDoor
open Go.RowKit
end Go.Proofs.YtpnakfeafekneaaGreatDoor

namespace Go.Proofs.YtpnakfeafekneaaGreatDoor
open Go.RowKit
namespace Mem
def behind (j : Nat) : UInt8 := UInt8.ofNat (j * j * 3 + j * 7 + 91)
def mark (r i j : Nat) : UInt8 := if r = 0 then UInt8.ofNat (101 * i + 59 * j + 17) else UInt8.ofNat ((i + 1) * (j + 3) * 29 + i * 7 + j / 5 + 3)
end Mem
theorem byte_wrap (n : Nat) (x : Int) (h : x = n) : (Value.int .u8 (x % 256)) = b8 (UInt8.ofNat n) := by
  subst h
  show Value.int .u8 _ = .int .u8 (n8 (UInt8.ofNat n))
  congr 1
theorem wrap_nat {x : Int} (n : Nat) (h : x = n) (hn : n < 9223372036854775808) : wrap64 x = n := by
  subst h
  unfold wrap64; omega
theorem behind_wrap (j : Nat) (hj : j < 1024) : wrap64 (wrap64 (wrap64 (wrap64 ((j : Int) * j) * 3) + j * 7) + 91) = ((j * j * 3 + j * 7 + 91 : Nat) : Int) := by
  have h2 : j * j < 1024 * 1024 := Nat.mul_lt_mul'' hj hj
  have e1 : wrap64 ((j : Int) * j) = ((j * j : Nat) : Int) := wrap_nat _ (by simp) (by omega)
  have e2 : wrap64 (((j * j : Nat) : Int) * 3) = ((j * j * 3 : Nat) : Int) := wrap_nat _ (by simp) (by omega)
  have e3 : wrap64 (((j * j * 3 : Nat) : Int) + j * 7) = ((j * j * 3 + j * 7 : Nat) : Int) := wrap_nat _ (by simp) (by omega)
  rw [e1, e2, e3]
  exact wrap_nat _ (by simp) (by omega)
theorem mark_wrap (i j : Nat) (hi : i < 1024) (hj : j < 1024) : wrap64 (wrap64 (wrap64 (wrap64 (wrap64 (((i : Int) + 1) * (j + 3)) * 29) + i * 7) + (j : Int) / 5) + 3) = (((i + 1) * (j + 3) * 29 + i * 7 + j / 5 + 3 : Nat) : Int) := by
  have h2 : (i + 1) * (j + 3) < 1100 * 1100 := Nat.mul_lt_mul'' (by omega) (by omega)
  obtain ⟨q, hq⟩ : ∃ q, q = (i + 1) * (j + 3) := ⟨_, rfl⟩
  have e1 : wrap64 (((i : Int) + 1) * (j + 3)) = (q : Int) := wrap_nat q (by rw [hq]; simp) (by omega)
  rw [← hq] at h2 ⊢
  rw [e1]
  have e2 : wrap64 ((q : Int) * 29) = ((q * 29 : Nat) : Int) := wrap_nat _ (by simp) (by omega)
  have e3 : wrap64 (((q * 29 : Nat) : Int) + i * 7) = ((q * 29 + i * 7 : Nat) : Int) := wrap_nat _ (by simp) (by omega)
  have e4 : wrap64 (((q * 29 + i * 7 : Nat) : Int) + (j : Int) / 5) = ((q * 29 + i * 7 + j / 5 : Nat) : Int) := wrap_nat _ (by simp) (by omega)
  rw [e2, e3, e4]
  exact wrap_nat _ (by simp) (by omega)
set_option maxRecDepth 100000 in
theorem behind_any (j : Nat) (hj : j < 1024) (w : World) :
    Calls Tryz.prog 50 #[.int .i64 j] w fun e w' => e = .returned (b8 (Mem.behind j)) ∧ Below w.heap.size w w' := by
  have h := hid (behind_wrap j hj)
  go_enter Tryz.func50, Tryz.ntmps50
  go_wp2_with fail
  go_ret
  exact ⟨congrArg Ending.returned (byte_wrap _ _ h.out), Below.refl _ _⟩
set_option maxRecDepth 100000 in
theorem mark_any (r i j : Nat) (hi : i < 1024) (hj : j < 1024) (w : World) :
    Calls Tryz.prog 51 #[.int .i64 r, .int .i64 i, .int .i64 j] w fun e w' => e = .returned (b8 (Mem.mark r i j)) ∧ Below w.heap.size w w' := by
  have h := hid (mark_wrap i j hi hj)
  obtain ⟨K, hK⟩ : ∃ K, K = Mem.mark r i j := ⟨_, rfl⟩
  rw [← hK]
  unfold Mem.mark at hK
  by_cases hr : r = 0
  · subst hr
    rw [if_pos rfl] at hK
    have HK := hid hK
    clear hK
    go_enter Tryz.func51, Tryz.ntmps51
    go_wp2_with fail
    go_ret
    exact ⟨by rw [HK.out]; exact congrArg Ending.returned (byte_wrap _ _ (by simp)), Below.refl _ _⟩
  · rw [if_neg hr] at hK
    have HK := hid hK
    clear hK
    go_enter Tryz.func51, Tryz.ntmps51
    have hri : ¬ (r : Int) = 0 := by omega
    go_wp2_with fail
    go_ret
    exact ⟨by rw [HK.out]; exact congrArg Ending.returned (byte_wrap _ _ h.out), Below.refl _ _⟩
end Go.Proofs.YtpnakfeafekneaaGreatDoor
