/- Part 36 of this proof: YG, YH, YI, YJ, YK, YL. -/
import Derived.Test.YtpnakfeafekneaaGreatDoorG35
set_option linter.unusedSimpArgs false
set_option linter.unusedVariables false
namespace Go.Proofs.YtpnakfeafekneaaGreatDoor
open Go.RowKit
set_option maxHeartbeats 1000000 in
set_option maxRecDepth 100000 in
theorem node_yes (n : Nat) (h2 : n ≤ 32) (t : Nat) (A : Option Addr) (k c : Nat) (m : List Pr) (w : World) (hm : ItSl w n A k c m) (hs : Hm.Srt n m) (hk : k < 524288) (hsz0 : prSize m < 274877906944) (hsz : ∀ p ∈ m, p.key.length < 1048576 ∧ p.val.length < 1048576) (h1 : Hm.single n m = true) :
    Calls Tryz.prog 102 #[.int .i64 n, .slice A k c, .int .i64 t] w fun e w' => e = .returned (dg (Dg.bucket n m)) ∧ Below w.heap.size w w' := by
  have hl : ((Dg.bucket n m).map b8).length = 32 := by rw [List.length_map]; exact Dg.sum_length n _ h2
  obtain ⟨D, hD⟩ : ∃ D, D = Dg.bucket n m := ⟨_, rfl⟩
  rw [← hD] at hl ⊢
  have HB := hid (And.intro (Blk.new w 40 (List.replicate 32 (b8 0))) (below_box w (.cells (List.replicate 32 (b8 0)).toArray 40)))
  have HA := hid (And.intro hm (And.intro hs (And.intro hsz0 (And.intro hsz (And.intro h1 hD)))))
  clear hm hs hsz0 hsz h1 hD
  go_enter Tryz.func102, Tryz.ntmps102
  go_wp2_with (first
    | (go_at_call 151
       refine (rbucket_any n A2 k c2 L2 m w2 h2 HA.out.1.1 H2.out.2.1 H2.out.2.2 HA.out.2.2.1 (by omega) HA.out.2.2.2.1).mono ?_
       rintro e w3 ⟨rfl, hb3⟩
       rw [← HA.out.2.2.2.2.2]
       have ht := (HB.out.1.grown (gro H2.out.1 hb3)).there 0 32 (by simp)
       have H3 := hid (gro HB.out.2 (gro H2.out.1 hb3))
       clear hb3)
    | (go_at_call 152
       refine (rpairs_any n h2 A k c m w1 (HA.out.1.grown (gro HB.out.2 H1.out)) (by omega)).mono ?_
       rintro e w2 ⟨A2, c2, L2, rfl, hb2, hr2, hp2⟩
       have H2 := hid (And.intro (gro H1.out hb2) (And.intro hr2 hp2))
       clear hb2 hr2 hp2)
    | (go_at_call 150
       refine (rsingle_any n h2 A k c m _ (HA.out.1.grown HB.out.2) HA.out.2.1 (by omega)).mono ?_
       rintro e w1 ⟨rfl, hb1⟩
       rw [HA.out.2.2.2.2.1]
       have H1 := hid hb1
       clear hb1)
    | ((with_reducible refine st_mid 40 (.tmp 6) (.tmp 13) w.heap.size 0 _ 32 hl ht (by kernel_rfl) (one_b8 _) ?_ ?_ ?_ ?_ ?_); rfl; rfl; rfl; rfl))
  exact rt_cell w.heap.size 0 _ 32 _ hl (World.rangeAt_setCells_same _ _ _ _ (by rw [hl]; exact ht)) Tryz.underlying40 rfl (by kernel_rfl) rfl rfl rfl ⟨rfl, below_setCells _ (Nat.le_refl _) _ _ _ H3.out⟩
set_option maxHeartbeats 1000000 in
set_option maxRecDepth 100000 in
theorem node_no (n : Nat) (h2 : n ≤ 32) (f : Nat) (hN : NodeOk n f) (t : Nat) (A : Option Addr) (k c : Nat) (m : List Pr) (w : World) (hft : f + 1 + t = 2 * n) (hm : ItSl w n A k c m) (hs : Hm.Srt n m) (hpre : Hm.Pre n t m) (hk : k < 524288) (hsz0 : prSize m < 274877906944) (hsz : ∀ p ∈ m, p.key.length < 1048576 ∧ p.val.length < 1048576) (h1 : Hm.single n m = false) :
    Calls Tryz.prog 102 #[.int .i64 n, .slice A k c, .int .i64 t] w fun e w' => e = .returned (dg (Dg.branch n (Hm.bm n t m) (kidsL n f t m 16))) ∧ Below w.heap.size w w' := by
  have hl : ((Dg.branch n (Hm.bm n t m) (kidsL n f t m 16)).map b8).length = 32 := by rw [List.length_map]; exact Dg.sum_length n _ h2
  obtain ⟨D, hD⟩ : ∃ D, D = Dg.branch n (Hm.bm n t m) (kidsL n f t m 16) := ⟨_, rfl⟩
  rw [← hD] at hl ⊢
  have hbm : Hm.bm n t m < 65536 := Hm.bmf_lt _
  have hk32 : ∀ d ∈ kidsL n f t m 16, d.length = 32 := by
    intro d hd
    unfold kidsL at hd
    obtain ⟨j, -, rfl⟩ := List.mem_map.1 hd
    exact Hm.node_len n h2 _ _ _
  have hk16 := kidsL_le n f t m 16
  obtain ⟨ks, hks⟩ : ∃ ks, ks = kidsL n f t m 16 := ⟨_, rfl⟩
  obtain ⟨bm, hbme⟩ : ∃ bm, bm = Hm.bm n t m := ⟨_, rfl⟩
  rw [← hks, ← hbme] at hD
  rw [← hks] at hk32 hk16
  rw [← hbme] at hbm
  have hstep : ∀ w', Below w.heap.size w w' → Calls Tryz.prog 153 #[.int .i64 n, .slice A k c, .int .i64 t] w' fun e w'' => ∃ A' k' c', e = .returned (.agg #[.int .u16 bm, .slice A' k' c']) ∧ Below w'.heap.size w' w'' ∧ ks.length = k' ∧ Rd w'' A' (dgs ks).flatten := fun w' hb => by
    rw [hks, hbme]; exact rstep_any n h2 f hN t A k c m w' hft (hm.grown hb) hs hpre hk hsz0 hsz
  have HB := hid (And.intro (Blk.new w 40 (List.replicate 32 (b8 0))) (below_box w (.cells (List.replicate 32 (b8 0)).toArray 40)))
  have HA := hid (And.intro hm (And.intro hs (And.intro hstep (And.intro h1 (And.intro hD (And.intro hk32 hk16))))))
  clear hm hs hsz0 hsz h1 hD hpre hN hstep hk32 hk16 hks hbme
  go_enter Tryz.func102, Tryz.ntmps102
  go_wp2_with (first
    | (go_at_call 154
       refine (rbranch_any n bm A2 k2 c2 ks _ h2 hbm H2.out.2.1 HA.out.2.2.2.2.2.1 (H2.out.2.2.grown (below_box w2 _)) (by have h3 := H2.out.2.1; have h4 := HA.out.2.2.2.2.2.2; omega)).mono ?_
       rintro e w3 ⟨rfl, hb3⟩
       rw [← HA.out.2.2.2.2.1]
       have hbw := gro (gro H2.out.1 (below_box w2 (.cells #[.int .u16 bm, .slice A2 k2 c2] 151))) hb3
       have ht := (HB.out.1.grown hbw).there 0 32 (by simp)
       have H3 := hid (gro HB.out.2 hbw)
       clear hb3 hbw)
    | (go_at_call 153
       refine (HA.out.2.2.1 w1 (gro HB.out.2 H1.out)).mono ?_
       rintro e w2 ⟨A2, k2, c2, rfl, hb2, hl2, hr2⟩
       have hbk := Blk.new w2 151 [.int .u16 bm, .slice A2 k2 c2]
       have k0 : (w2.alloc (.cells #[.int .u16 bm, .slice A2 k2 c2] 151)).cell? ⟨w2.heap.size, 0, none⟩ = some (.int .u16 bm) := hbk.cell 0
       have k1 : (w2.alloc (.cells #[.int .u16 bm, .slice A2 k2 c2] 151)).cell? ⟨w2.heap.size, 1, none⟩ = some (.slice A2 k2 c2) := hbk.cell 1
       have hso : ∀ v ∈ [Value.int .u16 bm, .slice A2 k2 c2], v.oneCell' = true := (fun v hv => by
         simp only [List.mem_cons, List.not_mem_nil, or_false] at hv
         rcases hv with rfl | rfl <;> rfl)
       have H2 := hid (And.intro (gro H1.out hb2) (And.intro hl2 hr2))
       clear hb2 hl2 hr2 hbk)
    | (go_at_call 150
       refine (rsingle_any n h2 A k c m _ (HA.out.1.grown HB.out.2) HA.out.2.1 (by omega)).mono ?_
       rintro e w1 ⟨rfl, hb1⟩
       rw [HA.out.2.2.2.1]
       have H1 := hid hb1
       clear hb1)
    | ((with_reducible refine st_new 151 (.tmp 7) (.tmp 17) _ _ [.int .u16 bm, .slice A2 k2 c2] 2 rfl ?_ (by kernel_rfl) hso ?_ ?_ ?_ ?_ ?_); rfl; rfl; rfl; rfl; rfl)
    | ((with_reducible refine st_mid 40 (.tmp 6) (.tmp 23) w.heap.size 0 _ 32 hl ht (by kernel_rfl) (one_b8 _) ?_ ?_ ?_ ?_ ?_); rfl; rfl; rfl; rfl))
  exact rt_cell w.heap.size 0 _ 32 _ hl (World.rangeAt_setCells_same _ _ _ _ (by rw [hl]; exact ht)) Tryz.underlying40 rfl (by kernel_rfl) rfl rfl rfl ⟨rfl, below_setCells _ (Nat.le_refl _) _ _ _ H3.out⟩
theorem rnode_ok (n : Nat) (h2 : n ≤ 32) : ∀ f, NodeOk n f
  | 0 => fun t A k c m w hft hm hs hpre hk hsz0 hsz => node_yes n h2 t A k c m w hm hs hk hsz0 hsz (hpre.single h2 (by omega))
  | f + 1 => fun t A k c m w hft hm hs hpre hk hsz0 hsz => by
    by_cases h1 : Hm.single n m = true
    · rw [Hm.node_single h1]; exact node_yes n h2 t A k c m w hm hs hk hsz0 hsz h1
    · have h1' : Hm.single n m = false := by simpa using h1
      rw [Hm.node, if_neg h1]
      exact node_no n h2 f (rnode_ok n h2 f) t A k c m w (by omega) hm hs hpre hk hsz0 hsz h1'
set_option maxHeartbeats 1000000 in
set_option maxRecDepth 100000 in
theorem rroot_any (n : Nat) (h2 : n ≤ 32) (A : Option Addr) (k c : Nat) (m : List Pr) (w : World) (hm : ItSl w n A k c m) (hs : Hm.Srt n m) (hk : k < 524288) (hsz0 : prSize m < 274877906944) (hsz : ∀ p ∈ m, p.key.length < 1048576 ∧ p.val.length < 1048576) :
    Calls Tryz.prog 63 #[.int .i64 n, .slice A k c] w fun e w' => e = .returned (dg (Hm.root n m)) ∧ Below w.heap.size w w' := by
  have hll : (Hm.root n m).length = 32 := by unfold Hm.root; split; exact Dg.sum_length n _ h2; exact Hm.node_len n h2 _ _ _
  have hl : ((Hm.root n m).map b8).length = 32 := by rw [List.length_map, hll]
  obtain ⟨D, hD⟩ : ∃ D, D = Hm.root n m := ⟨_, rfl⟩
  rw [← hD] at hl ⊢
  have HB := hid (And.intro (Blk.new w 40 (List.replicate 32 (b8 0))) (below_box w (.cells (List.replicate 32 (b8 0)).toArray 40)))
  rcases Nat.eq_zero_or_pos k with hk0 | hk0
  · subst hk0
    obtain rfl : m = [] := List.length_eq_zero_iff.1 hm.1
    have HA := hid (show Dg.noMap n = D from hD.symm)
    clear hD hm hs hsz0 hsz hll
    go_enter Tryz.func63, Tryz.ntmps63
    go_wp2_with (first
      | (go_at_call 16
         refine (rnomap_any n _ h2).mono ?_
         rintro e w2 ⟨rfl, hb2⟩
         rw [HA.out]
         have ht := (HB.out.1.grown hb2).there 0 32 (by simp)
         have H2 := hid (gro HB.out.2 hb2)
         clear hb2)
      | ((with_reducible refine st_mid 40 (.tmp 4) (.tmp 9) w.heap.size 0 _ 32 hl ht (by kernel_rfl) (one_b8 _) ?_ ?_ ?_ ?_ ?_); rfl; rfl; rfl; rfl))
    exact rt_cell w.heap.size 0 _ 32 _ hl (World.rangeAt_setCells_same _ _ _ _ (by rw [hl]; exact ht)) Tryz.underlying40 rfl (by kernel_rfl) rfl rfl rfl ⟨rfl, below_setCells _ (Nat.le_refl _) _ _ _ H2.out⟩
  · have he : m.isEmpty = false := by cases m with
      | nil => have := hm.1; simp at this; omega
      | cons _ _ => rfl
    have hnode : ∀ w', Below w.heap.size w w' → Calls Tryz.prog 102 #[.int .i64 n, .slice A k c, .int .i64 0] w' fun e w'' => e = .returned (dg D) ∧ Below w'.heap.size w' w'' := fun w' hb => by
      rw [hD]; unfold Hm.root; rw [he]
      exact rnode_ok n h2 (2 * n) 0 A k c m w' (by omega) (hm.grown hb) hs (fun p _ q _ i hi => by omega) hk hsz0 hsz
    have HA := hid hnode
    have hk1 : ¬ (k : Int) = 0 := by omega
    clear hD hm hs hsz0 hsz hll hnode he
    go_enter Tryz.func63, Tryz.ntmps63
    go_wp2_with (first
      | (go_at_call 102
         refine (HA.out _ HB.out.2).mono ?_
         rintro e w2 ⟨rfl, hb2⟩
         have ht := (HB.out.1.grown hb2).there 0 32 (by simp)
         have H2 := hid (gro HB.out.2 hb2)
         clear hb2)
      | ((with_reducible refine st_mid 40 (.tmp 4) (.tmp 12) w.heap.size 0 _ 32 hl ht (by kernel_rfl) (one_b8 _) ?_ ?_ ?_ ?_ ?_); rfl; rfl; rfl; rfl))
    exact rt_cell w.heap.size 0 _ 32 _ hl (World.rangeAt_setCells_same _ _ _ _ (by rw [hl]; exact ht)) Tryz.underlying40 rfl (by kernel_rfl) rfl rfl rfl ⟨rfl, below_setCells _ (Nat.le_refl _) _ _ _ H2.out⟩
end Go.Proofs.YtpnakfeafekneaaGreatDoor

namespace Go.Proofs.YtpnakfeafekneaaGreatDoor
open Go.RowKit
theorem Sn.fold_srt (n : Nat) : ∀ (es : List Ent) (m : List Pr), Hm.Srt n m → Hm.Srt n (es.foldl (Sn.step n) m)
  | [], m, h => h
  | e :: es, m, h => by
    rw [List.foldl_cons]
    refine Sn.fold_srt n es _ ?_
    unfold Sn.step
    split
    · exact Hm.ins_srt h
    · exact Hm.del_srt h
theorem Sn.map_srt (n : Nat) (es : List Ent) : Hm.Srt n (Sn.map n es) := Sn.fold_srt n es [] List.Pairwise.nil
theorem Sn.fold_mem (n : Nat) (Q : List UInt8 → List UInt8 → Prop) : ∀ (es : List Ent) (m : List Pr), (∀ e ∈ es, Q e.key e.val) → (∀ p ∈ m, Q p.key p.val) → ∀ p ∈ es.foldl (Sn.step n) m, Q p.key p.val
  | [], m, _, h => h
  | e :: es, m, he, h => by
    rw [List.foldl_cons]
    refine Sn.fold_mem n Q es _ (fun x hx => he x (by simp [hx])) ?_
    intro p hp
    unfold Sn.step at hp
    split at hp
    · rcases Hm.mem_ins hp with rfl | hp
      · exact he e (by simp)
      · exact h p hp
    · exact h p (List.mem_filter.1 hp).1
theorem Sn.map_mem (n : Nat) (Q : List UInt8 → List UInt8 → Prop) (es : List Ent) (he : ∀ e ∈ es, Q e.key e.val) : ∀ p ∈ Sn.map n es, Q p.key p.val := Sn.fold_mem n Q es [] he (fun p hp => by cases hp)
theorem two_filtersR {α : Type} (a b : α → Bool) (h : ∀ x, a x = true → b x = false) : ∀ m : List α, (m.filter a).length + (m.filter b).length ≤ m.length
  | [] => by simp
  | x :: m => by
    have := two_filtersR a b h m
    rw [List.filter_cons, List.filter_cons]
    by_cases ha : a x = true
    · rw [if_pos ha, h x ha]; simp; omega
    · rw [if_neg ha]
      split <;> simp only [List.length_cons] <;> omega
theorem Hm.ins_len (n : Nat) (x : Pr) (m : List Pr) : (Hm.ins n x m).length ≤ m.length + 1 := by
  unfold Hm.ins
  have := two_filtersR (fun p => decide (Hm.cmp n p x < 0)) (fun p => decide (0 < Hm.cmp n p x)) (fun p hp => by simp at hp ⊢; omega) m
  rw [List.length_append, List.length_cons]; omega
theorem Sn.fold_len (n : Nat) : ∀ (es : List Ent) (m : List Pr), (es.foldl (Sn.step n) m).length ≤ m.length + es.length
  | [], m => by simp
  | e :: es, m => by
    rw [List.foldl_cons]
    have h1 := Sn.fold_len n es (Sn.step n m e)
    have h2 : (Sn.step n m e).length ≤ m.length + 1 := by
      unfold Sn.step
      split
      · exact Hm.ins_len n _ m
      · exact Nat.le_trans (List.length_filter_le _ _) (by omega)
    rw [List.length_cons]; omega
theorem Sn.map_len (n : Nat) (es : List Ent) : (Sn.map n es).length ≤ es.length := by
  have := Sn.fold_len n es []
  rw [List.length_nil, Nat.zero_add] at this
  exact this
theorem prSize_le : ∀ (m : List Pr), (∀ p ∈ m, p.key.length < 1048576 ∧ p.val.length < 1048576) → prSize m ≤ m.length * 2097200
  | [], _ => by simp [prSize]
  | p :: m, h => by
    have h0 := prSize_le m (fun q hq => h q (by simp [hq]))
    obtain ⟨h1, h2⟩ := h p (by simp)
    have u1 := Wi.uvar_length 9 p.key.length (by omega)
    have u2 := Wi.uvar_length 9 p.val.length (by omega)
    unfold prSize Wi.blob at h0 ⊢
    simp only [List.flatMap_cons, List.length_append, List.length_cons] at h0 ⊢
    omega
set_option maxHeartbeats 2000000 in
set_option maxRecDepth 100000 in
theorem rmapof_any (n : Nat) (h2 : n ≤ 32) (es : List Ent) (A : Option Addr) (m c : Nat) (L : List (List Value)) (w : World) (hm : es.length = m) (hA : Rd w A L.flatten) (hE : EntsAt w L es) (hn : m < 65536) (hb : ∀ e ∈ es, e.key.length < 1048576 ∧ e.val.length < 1048576) :
    Calls Tryz.prog 64 #[.int .i64 n, .slice A m c] w fun e w' => ∃ A' k' c', e = .returned (.slice A' k' c') ∧ Below w.heap.size w w' ∧ ItSl w' n A' k' c' (Sn.map n es) := by
  have HA := hid (And.intro hA (And.intro hE hb))
  clear hA hE hb
  go_enter Tryz.func64, Tryz.ntmps64
  go_wp2_with fail
  go_loopg [5, 10] m (fun g s3 i wr => ∃ (j : Nat) (A' : Option Addr) (k' c' : Nat), j + g = m ∧ i = .int .i64 j ∧ s3 = .slice A' k' c' ∧ k' ≤ j ∧ ItSl wr n A' k' c' (Sn.map n (es.take j)) ∧ Below w.heap.size w wr)
  case atStart => exact ⟨0, none, 0, 0, by omega, rfl, rfl, Nat.le_refl _, ⟨rfl, Nat.le_refl _, [], Rd.nil _ _, ItsAt.nil _ _⟩, Below.refl _ _⟩
  case round =>
    obtain ⟨j, A', k', c', hj, rfl, rfl, hkj, hi, hbl⟩ := hrel
    have HR := hid (And.intro hi hbl)
    clear hi hbl
    by_cases hlt : j < m
    · have hje : j < es.length := by omega
      obtain ⟨kind, key, val, hjj⟩ : ∃ kind key val, es[j]? = some ⟨kind, key, val⟩ := ⟨es[j].kind, es[j].key, es[j].val, by simp [hje]⟩
      have hnx : Sn.map n (es.take (j + 1)) = Sn.step n (Sn.map n (es.take j)) ⟨kind, key, val⟩ := by
        rw [List.take_succ_eq_append_getElem hje, Sn.map_snoc, (List.getElem?_eq_some_iff.1 hjj).2]
      have hsub : ∀ e ∈ es.take j, e.key.length < 1048576 ∧ e.val.length < 1048576 := fun e he => HA.out.2.2 e (List.mem_of_mem_take he)
      have hmsz := Sn.map_mem n (fun k v => k.length < 1048576 ∧ v.length < 1048576) (es.take j) hsub
      have hsrt := Sn.map_srt n (es.take j)
      have hlen1 := Sn.map_len n (es.take (j + 1))
      have htl : (es.take (j + 1)).length = j + 1 := by rw [List.length_take]; omega
      have hL := HA.out.2.1.len
      have hjl : j < L.length := by omega
      obtain ⟨g, o, rfl, hr⟩ := HA.out.1 (by
        intro e
        have := flatten_len 3 _ HA.out.2.1.three
        rw [e] at this
        simp at this; omega)
      have hp := range_part hr HA.out.2.1.three j hjl
      have hbk := HA.out.2.2 _ (List.mem_of_getElem? hjj)
      obtain ⟨A1, c1', A2, c2', hx, hr1, hr2, hc1, hc2⟩ := HA.out.2.1.at_ j L[j] ⟨kind, key, val⟩ (by simp [hjl]) hjj
      rw [hx] at hp
      simp only [] at hp hr1 hr2 hbk
      have hlb := range_lt hp (by simp)
      have hp2 := range_below hp HR.out.2 hlb
      have hoc : ∀ v ∈ [b8 kind, .slice A1 key.length c1', .slice A2 val.length c2'], v.oneCell' = true := fun v hv => by
        simp only [List.mem_cons, List.not_mem_nil, or_false] at hv
        rcases hv with rfl | rfl | rfl <;> rfl
      obtain ⟨nk, hnk⟩ : ∃ nk, key.length = nk := ⟨_, rfl⟩
      obtain ⟨nv, hnv⟩ : ∃ nv, val.length = nv := ⟨_, rfl⟩
      rw [hnk, hnv] at hp2 hoc hbk
      have hblk := Blk.new wr 36 [b8 kind, .slice A1 nk c1', .slice A2 nv c2']
      have k0 : (wr.alloc (.cells #[b8 kind, .slice A1 nk c1', .slice A2 nv c2'] 36)).cell? ⟨wr.heap.size, 0, none⟩ = some (b8 kind) := hblk.cell 0
      have k1 : (wr.alloc (.cells #[b8 kind, .slice A1 nk c1', .slice A2 nv c2'] 36)).cell? ⟨wr.heap.size, 1, none⟩ = some (.slice A1 nk c1') := hblk.cell 1
      have k2 : (wr.alloc (.cells #[b8 kind, .slice A1 nk c1', .slice A2 nv c2'] 36)).cell? ⟨wr.heap.size, 2, none⟩ = some (.slice A2 nv c2') := hblk.cell 2
      have hb1 := below_box wr (.cells #[b8 kind, .slice A1 nk c1', .slice A2 nv c2'] 36)
      have HX := hid (And.intro hnx (And.intro hnk (And.intro hnv (And.intro hr1 (And.intro hr2 (And.intro hb1 (And.intro hmsz (And.intro hsrt (And.intro hlen1 htl)))))))))
      clear hnx hnk hnv hr1 hr2 hb1 hmsz hsrt hlen1 htl hr hx hp hc1 hc2 hL hlb hblk hsub
      by_cases hkd : kind = 1
      · subst hkd
        go_wp2_with (first
          | ((with_reducible refine ld_mid 36 (.tmp 12) g (o + j * 3) _ 3 _ rfl hp2 Tryz.underlying36 rfl (by kernel_rfl) ?_ ?_ ?_ ?_); rfl; rfl; rfl)
          | ((with_reducible refine st_new 36 (.tmp 7) (.tmp 13) _ _ [b8 1, .slice A1 nk c1', .slice A2 nv c2'] 3 rfl ?_ (by kernel_rfl) hoc ?_ ?_ ?_ ?_ ?_); rfl; rfl; rfl; rfl; rfl)
          | (go_at_call 103
             refine (rput_any n h2 A' k' c' _ A1 nk c1' key A2 nv c2' val _ (HR.out.1.grown HX.out.2.2.2.2.2.1) HX.out.2.2.2.2.2.2.2.1 HX.out.2.1 HX.out.2.2.1 (HX.out.2.2.2.1.grown (gro HR.out.2 HX.out.2.2.2.2.2.1)) (HX.out.2.2.2.2.1.grown (gro HR.out.2 HX.out.2.2.2.2.2.1)) (by omega) hbk.1 hbk.2 (fun p hp => (HX.out.2.2.2.2.2.2.1 p hp).1)).mono ?_
             rintro e w5 ⟨A5, k5, c5, rfl, hb5, hs5⟩
             have H5 := hid (And.intro (gro HX.out.2.2.2.2.2.1 hb5) hs5)
             clear hb5 hs5))
        go_roundg (gk - 1)
        case measure => omega
        case rel =>
          have hstep : Sn.map n (es.take (j + 1)) = Hm.ins n ⟨key, val⟩ (Sn.map n (es.take j)) := by rw [HX.out.1]; unfold Sn.step; rw [if_pos rfl]
          refine ⟨j + 1, A5, k5, c5, by omega, by go_num, rfl, ?_, by rw [hstep]; exact H5.out.2, gro HR.out.2 H5.out.1⟩
          have h1 := HX.out.2.2.2.2.2.2.2.2.1; have h3 := HX.out.2.2.2.2.2.2.2.2.2; have h4 := H5.out.2.1
          rw [hstep] at h1; omega
      · have hf : (n8 kind == 1) = false := by
          have : n8 kind ≠ 1 := fun h => hkd (n8_inj (by rw [h]; rfl))
          simpa using this
        go_wp2_with (first
          | ((with_reducible refine ld_mid 36 (.tmp 12) g (o + j * 3) _ 3 _ rfl hp2 Tryz.underlying36 rfl (by kernel_rfl) ?_ ?_ ?_ ?_); rfl; rfl; rfl)
          | ((with_reducible refine st_new 36 (.tmp 7) (.tmp 13) _ _ [b8 kind, .slice A1 nk c1', .slice A2 nv c2'] 3 rfl ?_ (by kernel_rfl) hoc ?_ ?_ ?_ ?_ ?_); rfl; rfl; rfl; rfl; rfl)
          | (go_at_call 104
             refine (rdelete_any n h2 A' k' c' _ A1 nk c1' key _ (HR.out.1.grown HX.out.2.2.2.2.2.1) HX.out.2.1 (HX.out.2.2.2.1.grown (gro HR.out.2 HX.out.2.2.2.2.2.1)) (by omega) hbk.1 (fun p hp => (HX.out.2.2.2.2.2.2.1 p hp).1)).mono ?_
             rintro e w5 ⟨A5, k5, c5, b5, rfl, hb5, hs5⟩
             have H5 := hid (And.intro (gro HX.out.2.2.2.2.2.1 hb5) hs5)
             clear hb5 hs5))
        go_roundg (gk - 1)
        case measure => omega
        case rel =>
          have hstep : Sn.map n (es.take (j + 1)) = Hm.del key (Sn.map n (es.take j)) := by rw [HX.out.1]; unfold Sn.step; rw [if_neg hkd]
          refine ⟨j + 1, A5, k5, c5, by omega, by go_num, rfl, ?_, by rw [hstep]; exact H5.out.2, gro HR.out.2 H5.out.1⟩
          have h1 := HX.out.2.2.2.2.2.2.2.2.1; have h3 := HX.out.2.2.2.2.2.2.2.2.2; have h4 := H5.out.2.1
          rw [hstep] at h1; omega
    · obtain rfl : j = m := by omega
      have hfin := HR.out.1
      rw [List.take_of_length_le (by omega)] at hfin
      have HF := hid hfin
      clear hfin
      go_wp2_with fail
      go_ret
      exact ⟨A', k', c', rfl, HR.out.2, HF.out⟩
end Go.Proofs.YtpnakfeafekneaaGreatDoor

namespace Go.Proofs.YtpnakfeafekneaaGreatDoor
open Go.RowKit
theorem Sn.root_ok2 (n : Nat) (h2 : n ≤ 32) (es : List Ent) (hl : es.length < 1048576) : RtOk (Sn.root n es) := by
  refine ⟨Mt.log_len n h2 _ ?_, ?_, by show es.length < _; omega⟩
  · intro d hd
    unfold Sn.leaves at hd
    obtain ⟨e, -, rfl⟩ := List.mem_map.1 hd
    exact leaf_len n h2 _
  · show (Hm.root n (Sn.map n es)).length = 32
    unfold Hm.root; split; exact Dg.sum_length n _ h2; exact Hm.node_len n h2 _ _ _
attribute [-go_sem] Instr.build Instr.buildSlice in
set_option maxHeartbeats 1000000 in
set_option maxRecDepth 100000 in
theorem rrootof_any (n : Nat) (h2 : n ≤ 32) (es : List Ent) (A : Option Addr) (m c : Nat) (L : List (List Value)) (w : World) (hm : es.length = m) (hA : Rd w A L.flatten) (hE : EntsAt w L es) (hn : m < 65536) (hb : ∀ e ∈ es, e.key.length < 1048576 ∧ e.val.length < 1048576) :
    Calls Tryz.prog 37 #[.int .i64 n, .slice A m c] w fun e w' => e = .returned (.agg (rtCells (Sn.root n es)).toArray) ∧ Below w.heap.size w w' := by
  have hok := Sn.root_ok2 n h2 es (by omega)
  have hrl := rt_len hok
  have hro := rt_oc (Sn.root n es)
  obtain ⟨X, hX⟩ : ∃ X, X = Mt.log n (Sn.leaves n es) := ⟨_, rfl⟩
  obtain ⟨Y, hY⟩ : ∃ Y, Y = Hm.root n (Sn.map n es) := ⟨_, rfl⟩
  have hXl : X.length = 32 := by rw [hX]; exact hok.1
  have hYl : Y.length = 32 := by rw [hY]; exact hok.2.1
  have hr : rtCells (Sn.root n es) = rtCells ⟨m, X, Y⟩ := by unfold Sn.root; rw [hX, hY, hm]
  rw [hr] at hrl hro ⊢
  have hbr := rt_build_run m X Y hXl hYl
  obtain ⟨R, hR⟩ : ∃ R, R = rtCells ⟨m, X, Y⟩ := ⟨_, rfl⟩
  rw [← hR] at hrl hro hbr ⊢
  have hlv : (Sn.leaves n es).length = m := by unfold Sn.leaves; rw [List.length_map, hm]
  have hl32 : ∀ d ∈ Sn.leaves n es, d.length = 32 := by
    intro d hd
    unfold Sn.leaves at hd
    obtain ⟨e, -, rfl⟩ := List.mem_map.1 hd
    exact leaf_len n h2 _
  have hmsz := Sn.map_mem n (fun k v => k.length < 1048576 ∧ v.length < 1048576) es hb
  have hpr := prSize_le _ hmsz
  have hml := Sn.map_len n es
  have hz0 := Blk.new w 42 (.int .u64 0 :: List.replicate 64 (.int .u8 0))
  have HB := hid (And.intro hz0 (below_box w (.cells (.int .u64 0 :: List.replicate 64 (.int .u8 0)).toArray 42)))
  have HA := hid (And.intro hA (And.intro hE (And.intro hb (And.intro hX (And.intro hY (And.intro hlv (And.intro hl32 (And.intro hmsz (And.intro (show prSize (Sn.map n es) < 274877906944 by omega) (show (Sn.map n es).length ≤ m by omega))))))))))
  clear hA hE hb hX hY hlv hl32 hmsz hpr hml hok hr hR hz0 hm
  go_enter Tryz.func37, Tryz.ntmps37
  go_upto_region 1 with fail
  refine wp_world (fun w' => Blk w' w.heap.size 42 (.int .u64 0 :: List.replicate 64 (.int .u8 0)) ∧ Below w.heap.size w w') HB.out ?_
  rintro w0 ⟨hz, hbl⟩
  have HZ := hid (And.intro hz hbl)
  clear hz hbl
  go_wp2_with (first
    | (go_at_call 63
       refine (rroot_any n h2 A4 k4 c4 (Sn.map n es) w4 H4.out.2 (Sn.map_srt n es) (by have h3 := H4.out.2.1; have h5 := HA.out.2.2.2.2.2.2.2.2.2; omega) HA.out.2.2.2.2.2.2.2.2.1 HA.out.2.2.2.2.2.2.2.1).mono ?_
       rintro e w5 ⟨rfl, hb5⟩
       rw [← HA.out.2.2.2.2.1]
       have ht := (HZ.out.1.grown (gro H4.out.1 hb5)).there 0 65 (by simp)
       have H5 := hid (gro HZ.out.2 (gro H4.out.1 hb5))
       clear hb5)
    | (go_at_call 64
       refine (rmapof_any n h2 es A m c L w3 (by rw [← HA.out.2.2.2.2.2.1]; unfold Sn.leaves; rw [List.length_map]) (HA.out.1.grown (gro HZ.out.2 H3.out)) (HA.out.2.1.grown (gro HZ.out.2 H3.out)) hn HA.out.2.2.1).mono ?_
       rintro e w4 ⟨A4, k4, c4, rfl, hb4, hi4⟩
       have H4 := hid (And.intro (gro H3.out hb4) hi4)
       clear hb4 hi4)
    | (go_at_call 61
       refine (rlog_any n h2 m (Sn.leaves n es) HA.out.2.2.2.2.2.1 A2 m c2 w2 HA.out.2.2.2.2.2.1 HA.out.2.2.2.2.2.2.1 H2.out.2.1 H2.out.2.2 (by omega)).mono ?_
       rintro e w3 ⟨rfl, hb3⟩
       rw [← HA.out.2.2.2.1]
       have H3 := hid (gro H2.out.1 hb3)
       clear hb3)
    | (go_at_call 62
       refine (rleaves_any n h2 es A m c L _ (by rw [← HA.out.2.2.2.2.2.1]; unfold Sn.leaves; rw [List.length_map]) (HA.out.1.grown HZ.out.2) (HA.out.2.1.grown HZ.out.2) (by omega) HA.out.2.2.1).mono ?_
       rintro e w2 ⟨A2, c2, rfl, hb2, hr2, hc2⟩
       have H2 := hid (And.intro hb2 (And.intro hr2 hc2))
       clear hb2 hr2 hc2)
    | ((with_reducible refine st_mid 42 (.tmp 4) (.tmp 18) w.heap.size 0 R 65 hrl ht (by kernel_rfl) hro ?_ ?_ ?_ ?_ ?_); rfl; rfl; rfl; rfl))
  exact rt_cell w.heap.size 0 R 65 _ hrl (World.rangeAt_setCells_same _ _ _ _ (by rw [hrl]; exact ht)) Tryz.underlying42 rfl (by kernel_rfl) rfl rfl rfl ⟨rfl, below_setCells _ (Nat.le_refl _) _ _ _ H5.out⟩
end Go.Proofs.YtpnakfeafekneaaGreatDoor

namespace Go.Proofs.YtpnakfeafekneaaGreatDoor
open Go.RowKit
theorem ents_take {w : World} {L : List (List Value)} {es : List Ent} (h : EntsAt w L es) (k : Nat) : EntsAt w (L.take k) (es.take k) := by
  refine ⟨by rw [List.length_take, List.length_take, h.len], fun i x p h1 h2 => ?_⟩
  rw [List.getElem?_take] at h1 h2
  split at h1
  · rename_i hh; rw [if_pos hh] at h2; exact h.at_ i x p h1 h2
  · cases h1
theorem rd_flat_take {w : World} {A : Option Addr} {L : List (List Value)} (h : Rd w A L.flatten) (k : Nat) : Rd w A (L.take k).flatten := by
  have e : L.flatten = (L.take k).flatten ++ (L.drop k).flatten := by rw [← List.flatten_append, List.take_append_drop]
  intro hn
  obtain ⟨g, o, hA, hr⟩ := h (by rw [e]; intro h0; exact hn (List.append_eq_nil_iff.1 h0).1)
  rw [e] at hr
  exact ⟨g, o, hA, (range_halves hr).1⟩
theorem run_slice_to2 {T e : TypeId} {size : Nat} {P : Program} (hT : P.underlying T = some (.slice e)) (hs : (P.info? e).map (·.size) = some size) (A : Option Addr) (n c k : Nat) (hk : k ≤ c) (w : World) :
    ∃ A', (∀ w, (Instr.slice T (.slice A n c) none (some (.int .i64 k)) none).run P w = .ok (.slice A' k c) w) ∧ (∀ b o, A = some ⟨b, o, none⟩ → A' = A) := by
  have h1 : (0 : Int) ≤ (k : Int) ∧ (k : Int) ≤ (c : Int) := by omega
  refine ⟨if c = 0 then A else A.map (·.add 0), fun w => ?_, fun b o e => ?_⟩
  · by_cases h0 : c = 0
    · simp [Instr.slice, run_underlying hT, Instr.sliceBounds, Instr.sliceBound, asIntOf, sizeOf_run hs, h1, h0]
      omega
    · simp [Instr.slice, run_underlying hT, Instr.sliceBounds, Instr.sliceBound, asIntOf, sizeOf_run hs, h1, h0]
      omega
  · subst e
    split
    · rfl
    · simp [Addr.add_mid]
def Rlt (n : Nat) (es : List Ent) (k : Nat) : List Rt := (List.range k).map fun i => Sn.root n (es.take i)
theorem Rlt_succ (n : Nat) (es : List Ent) (k : Nat) : Rlt n es (k + 1) = Rlt n es k ++ [Sn.root n (es.take k)] := by unfold Rlt; rw [List.range_succ, List.map_append]; rfl
set_option maxHeartbeats 2000000 in
set_option maxRecDepth 100000 in
theorem rroots_any (n : Nat) (h2 : n ≤ 32) (es : List Ent) (A : Option Addr) (m c : Nat) (L : List (List Value)) (w : World) (hm : es.length = m) (hmc : m ≤ c) (hA : Rd w A L.flatten) (hE : EntsAt w L es) (hn : m < 65536) (hb : ∀ e ∈ es, e.key.length < 1048576 ∧ e.val.length < 1048576) :
    Calls Tryz.prog 27 #[.int .i64 n, .slice A m c] w fun e w' => ∃ Ar cr, e = .returned (.slice Ar (m + 1) cr) ∧ Below w.heap.size w w' ∧ Rd w' Ar (rtRow (Rl n es m)).flatten := by
  have HA := hid (And.intro hA (And.intro hE (And.intro hb hm)))
  clear hA hE hb hm
  go_enter Tryz.func27, Tryz.ntmps27
  go_wp2_with fail
  go_loopg [5, 6] (m + 1) (fun g s5 i wr => ∃ (j : Nat) (Ar : Option Addr) (cr : Nat), j + g = m + 1 ∧ i = .int .i64 j ∧ s5 = .slice Ar j cr ∧ wr.ownsRow w.heap.size 42 65 (.slice Ar j cr) j (rtRow (Rlt n es j)).flatten ∧ Below w.heap.size w wr)
  case atStart => exact ⟨0, none, 0, by omega, rfl, rfl, World.ownsRow_nil _ _ _ _, Below.refl _ _⟩
  case round =>
    obtain ⟨j, Ar, cr, hj, rfl, rfl, ho, hbl⟩ := hrel
    have HR := hid (And.intro ho hbl)
    clear ho hbl
    by_cases hlt : j ≤ m
    · obtain ⟨A', hsl, hA'⟩ := run_slice_to2 (P := Tryz.prog) Tryz.underlying22 (e := 36) (size := 3) (by kernel_rfl) A m c j (by omega) w
      have hrdt : Rd w A' (L.take j).flatten := by
        intro hn'
        obtain ⟨g, o, e, hr⟩ := rd_flat_take HA.out.1 j hn'
        exact ⟨g, o, by rw [hA' g o e]; exact e, hr⟩
      have htl : (es.take j).length = j := by rw [List.length_take, HA.out.2.2.2]; omega
      have hok := Sn.root_ok2 n h2 (es.take j) (by omega)
      have hnx := Rlt_succ n es j
      obtain ⟨R, hR⟩ : ∃ R, R = rtCells (Sn.root n (es.take j)) := ⟨_, rfl⟩
      have hrl : R.length = 65 := by rw [hR]; exact rt_len hok
      have hro : ∀ v ∈ R, v.oneCell' = true := by rw [hR]; exact rt_oc _
      have hcall := rrootof_any n h2 (es.take j) A' j c (L.take j) wr htl (hrdt.grown HR.out.2) ((ents_take HA.out.2.1 j).grown HR.out.2) (by omega) (fun e he => HA.out.2.2.1 e (List.mem_of_mem_take he))
      rw [← hR] at hcall
      have hyl : ∀ x ∈ [R], x.length = 65 := fun x hx => by rw [List.mem_singleton] at hx; subst hx; exact hrl
      have hyl2 : [R].flatten.length = 1 * 65 := by simp [hrl]
      have hyo : ∀ v ∈ [R].flatten, v.oneCell' = true := fun v hv => hro v (by simpa using hv)
      have h63 : j + 1 ≤ maxLen := by simp only [maxLen]; omega
      have hby : (j + 1) * 72 ≤ 140737488355328 := by omega
      have HC := hid (And.intro hcall (And.intro hnx hR))
      clear hcall hnx hR hok hrdt hA' htl hro
      go_wp2_with (first
        | (go_at_call 37
           refine HC.out.1.mono ?_
           rintro e w7 ⟨rfl, hb7⟩
           have hb8 := gro hb7 (below_box w7 (.cells [R].flatten.toArray 42))
           have own8 := own_grown HR.out.1 hb8
           have hr8 := Rd.of _ (Blk.new w7 42 [R].flatten).whole
           have hbs8 := (gro HR.out.2 hb8).size
           have H8 := hid (And.intro hb8 (And.intro own8 hr8))
           clear hb7 hb8 own8 hr8)
        | ((with_reducible refine bs_own 24 42 1 #[(0, .tmp 18)] [R] 65 (by decide) hyl rfl (by decide) (by decide) Tryz.underlying24 (by kernel_rfl) ?_ ?_ ?_ ?_); rfl; rfl; rfl)
        | ((with_reducible refine ap_own (.tmp 13) (.tmp 19) 24 Tryz.underlying24 info_rt rfl (by decide) H8.out.2.1 1 1 hyl2 H8.out.2.2 hyo h63 hby hbs8 ?_ ?_ ?_ ?_ ?_); rfl; rfl; rfl; rfl
           intro v9 w9 hn1 hn2 hn3 hn4
           obtain ⟨A9, c9, rfl, hr9, hc9⟩ := rd_own hn1
           have H9 := hid (And.intro hn1 (grownBy_below H8.out.2.1 (gro HR.out.2 H8.out.1) hbs8 hn2))
           clear hn1 hn2 hn3 hn4 hr9 hc9))
      go_roundg (gk - 1)
      case measure => omega
      case rel =>
        refine ⟨j + 1, A9, c9, by omega, by go_num, rfl, ?_, H9.out.2⟩
        rw [HC.out.2.1, rtRow_snoc, ← HC.out.2.2]
        simpa using H9.out.1
    · obtain rfl : j = m + 1 := by omega
      obtain ⟨hr9, -⟩ := own_rd HR.out.1
      have HF := hid (show Rd wr Ar (rtRow (Rl n es m)).flatten from hr9)
      clear hr9
      go_wp2_with fail
      go_ret
      exact ⟨Ar, cr, rfl, HR.out.2, HF.out⟩
end Go.Proofs.YtpnakfeafekneaaGreatDoor

namespace Go.Proofs.YtpnakfeafekneaaGreatDoor
open Go.RowKit
theorem equalIn_bytes {P : Program} {t e : TypeId} {n : Nat} (ht : P.underlying t = some (.array n e)) (he : P.underlying e = some (.int .u8)) (hs : (P.info? e).map (·.size) = some 1) (xs : List UInt8) (hx : xs.length = n) (d : Nat) (w : World) :
    (Op.equalIn (d + 1 + 1) t (.agg (xs.map b8).toArray) (.agg (xs.map b8).toArray)).run P w = .ok true w := by
  have hl := eq_loop he d w xs xs n hx hx n 0 (by omega) rfl
  rw [Op.equalIn]
  simp only [Sem.run_bind, run_underlying ht, Result.andThen_ok, sizeOf_run hs, Std.Legacy.Range.forIn_eq_forIn_range', Std.Legacy.Range.size]
  simp only [Nat.sub_zero, Nat.add_one_sub_one, Nat.div_one]
  rw [hl]
  simp
theorem part_row {P : Program} {t : TypeId} {n : Nat} {e : TypeId} (ht : P.underlying t = some (.array n e)) (k : Nat) (hs : (P.info? t).map (·.size) = some k) (a b c : List Value) (hb : b.length = k) (w : World) :
    (part t (a ++ (b ++ c)).toArray a.length).run P w = .ok (.agg b.toArray) w := by
  have ha : (isAgg t).run P w = .ok true w := by
    unfold isAgg
    rw [Sem.run_bind, run_underlying ht w]
    rfl
  unfold part
  simp only [Sem.run_bind, ha, Result.andThen_ok, if_true, sizeOf_run hs, Sem.run_pure]
  congr 2
  simp [hb]
theorem run_eq_root (r : Rt) (h : RtOk r) (w : World) : (Op.equalIn 10000 42 (.agg (rtCells r).toArray) (.agg (rtCells r).toArray)).run Tryz.prog w = .ok true w := by
  rw [show (10000 : Nat) = 9997 + 1 + 1 + 1 from rfl, run_equalIn_struct w _ _ _ _ (by kernel_rfl) (by kernel_rfl)]
  have hm : ((Tryz.prog.fieldsOf 42).toList.map fun f => (f.name == "_", f.type, f.offset)) = [(false, 38, 0), (false, 40, 1), (false, 40, 33)] := by kernel_rfl
  generalize (Tryz.prog.fieldsOf 42).toList = fs at hm ⊢
  have hlen := congrArg List.length hm
  rcases fs with _ | ⟨f0, _ | ⟨f1, _ | ⟨f2, _ | ⟨f3, fr⟩⟩⟩⟩
  · simp at hlen
  · simp at hlen
  · simp at hlen
  rotate_left
  · simp at hlen
  simp only [List.map_cons, List.map_nil, List.cons.injEq, Prod.mk.injEq, beq_eq_false_iff_ne, and_true] at hm
  obtain ⟨⟨n0, t0, o0⟩, ⟨n1, t1, o1⟩, ⟨n2, t2, o2⟩⟩ := hm
  have hl : (r.log.map b8).length = 32 := by simp [h.1]
  have hml : (r.map.map b8).length = 32 := by simp [h.2.1]
  have p0 : ∀ w, (part 38 (rtCells r).toArray 0).run Tryz.prog w = .ok (.int .u64 r.size) w := fun w => part_one Tryz.underlying38 rfl _ _ _ (by simp [rtCells]) w
  have p1 : ∀ w, (part 40 (rtCells r).toArray 1).run Tryz.prog w = .ok (.agg (r.log.map b8).toArray) w := fun w => part_row Tryz.underlying40 32 (by kernel_rfl) [.int .u64 r.size] (r.log.map b8) (r.map.map b8) hl w
  have p2 : ∀ w, (part 40 (rtCells r).toArray 33).run Tryz.prog w = .ok (.agg (r.map.map b8).toArray) w := fun w => by
    have := part_row (P := Tryz.prog) Tryz.underlying40 32 (by kernel_rfl) (.int .u64 r.size :: r.log.map b8) (r.map.map b8) [] hml w
    rw [List.append_nil] at this
    rw [show (Value.int .u64 r.size :: r.log.map b8).length = 33 from by simp [h.1]] at this
    exact this
  have q0 : ∀ w, (Op.equalIn (9997 + 1 + 1) 38 (.int .u64 r.size) (.int .u64 r.size)).run Tryz.prog w = .ok true w := fun w => by
    rw [run_equalIn_int w _ _ _ .u64 _ _ Tryz.underlying38]; simp
  have q1 : ∀ w, (Op.equalIn (9997 + 1 + 1) 40 (.agg (r.log.map b8).toArray) (.agg (r.log.map b8).toArray)).run Tryz.prog w = .ok true w := fun w => equalIn_bytes Tryz.underlying40 Tryz.underlying5 (by kernel_rfl) r.log h.1 9997 w
  have q2 : ∀ w, (Op.equalIn (9997 + 1 + 1) 40 (.agg (r.map.map b8).toArray) (.agg (r.map.map b8).toArray)).run Tryz.prog w = .ok true w := fun w => equalIn_bytes Tryz.underlying40 Tryz.underlying5 (by kernel_rfl) r.map h.2.1 9997 w
  unfold Op.eqFields Op.eqFields Op.eqFields Op.eqFields
  simp only [n0, n1, n2, t0, t1, t2, o0, o1, o2, ne_eq, not_false_eq_true, if_true, Sem.run_bind, p0, p1, p2, q0, q1, q2, Result.andThen_ok, Bool.not_true, Bool.false_eq_true, if_false, Sem.run_pure]
theorem run_eql_root (r : Rt) (h : RtOk r) (w : World) : (binOp .eql 42 (.agg (rtCells r).toArray) (.agg (rtCells r).toArray)).run Tryz.prog w = .ok (.bool true) w := by
  rw [run_eql_struct, run_eq_root r h]; rfl
theorem run_neq_root (r : Rt) (h : RtOk r) (w : World) : (binOp .neq 42 (.agg (rtCells r).toArray) (.agg (rtCells r).toArray)).run Tryz.prog w = .ok (.bool false) w := by
  rw [run_neq_struct, run_eq_root r h]; rfl
set_option maxHeartbeats 1000000 in
set_option maxRecDepth 100000 in
theorem sameroots_any (rs : List Rt) (hok : ∀ r ∈ rs, RtOk r) (n : Nat) (hn : rs.length = n) (hn20 : n < 1048576) (A1 : Option Addr) (c1 : Nat) (A2 : Option Addr) (c2 : Nat) (w : World) (h1 : Rd w A1 (rtRow rs).flatten) (h2 : Rd w A2 (rtRow rs).flatten) :
    Calls Tryz.prog 12 #[.slice A1 n c1, .slice A2 n c2] w fun e w' => e = .returned (.bool true) ∧ Below w.heap.size w w' := by
  have HA := hid (And.intro h1 (And.intro h2 (And.intro hok hn)))
  clear h1 h2 hok hn
  go_enter Tryz.func12, Tryz.ntmps12
  go_wp2_with fail
  go_loopg [5] n (fun g i wr => ∃ j : Nat, j + g = n ∧ i = .int .i64 j ∧ Below w.heap.size w wr)
  case atStart => exact ⟨0, by omega, rfl, Below.refl _ _⟩
  case round =>
    obtain ⟨j, hj, rfl, hbl⟩ := hrel
    have HR := hid hbl
    clear hbl
    by_cases hlt : j < n
    · have hjr : j < rs.length := by rw [HA.out.2.2.2]; exact hlt
      have h65 := rtRow_len HA.out.2.2.1
      have hjl : j < (rtRow rs).length := by unfold rtRow; rw [List.length_map]; exact hjr
      have hne : (rtRow rs).flatten ≠ [] := by
        intro e
        have := flatten_len 65 _ h65
        rw [e] at this
        simp at this; omega
      obtain ⟨g1, o1, rfl, hr1⟩ := HA.out.1 hne
      obtain ⟨g2, o2, rfl, hr2⟩ := HA.out.2.1 hne
      have hp1 := range_part hr1 h65 j hjl
      have hp2 := range_part hr2 h65 j hjl
      have hej : (rtRow rs)[j] = rtCells rs[j] := by simp [rtRow]
      rw [hej] at hp1 hp2
      have hrk := HA.out.2.2.1 rs[j] (List.getElem_mem hjr)
      have hrl := rt_len hrk
      have hneq := run_neq_root rs[j] hrk
      obtain ⟨R, hR⟩ : ∃ R, R = rtCells rs[j] := ⟨_, rfl⟩
      rw [← hR] at hp1 hp2 hrl hneq
      have hp1' := range_below hp1 HR.out (range_lt hp1 (by omega))
      have hp2' := range_below hp2 HR.out (range_lt hp2 (by omega))
      clear hr1 hr2 hp1 hp2 hej hR hne
      go_upto_region 6 with fail
      refine wp_region_fut (by kernel_rfl) (by kernel_rfl) ?_
      repeat (first
        | (go_big_quiet_want; (with_reducible refine quiet_ld 42 (.tmp 19) g1 (o1 + j * 65) R 65 _ hrl (range_fut hp1') Tryz.underlying42 rfl (by kernel_rfl) ?_ ?_ ?_); rfl; rfl; simp only [Act.put, List.setIfInBounds_toArray, List.set_cons_zero, List.set_cons_succ]; go_big_quiet_on)
        | (go_big_quiet_want; (with_reducible refine quiet_ld 42 (.tmp 23) g2 (o2 + j * 65) R 65 _ hrl (range_fut hp2') Tryz.underlying42 rfl (by kernel_rfl) ?_ ?_ ?_); rfl; rfl; simp only [Act.put, List.setIfInBounds_toArray, List.set_cons_zero, List.set_cons_succ]; go_big_quiet_on)
        | go_big_quiet_step (fail))
      refine wpQuiet_nil ?_
      rintro _ ⟨s, rfl⟩
      go_wp2_with fail
      go_roundg (gk - 1)
      case measure => omega
      case rel => exact ⟨j + 1, by omega, by go_num, gro HR.out s.below⟩
    · obtain rfl : j = n := by omega
      go_wp2_with fail
      go_ret
      exact ⟨rfl, HR.out⟩
end Go.Proofs.YtpnakfeafekneaaGreatDoor

namespace Go.Proofs.YtpnakfeafekneaaGreatDoor
open Go.RowKit
def BatAt (w : World) (x : List Value) (F : Nat) (b : List Ent) : Prop := ∃ A c L, x = [.int .u64 F, .slice A b.length c] ∧ Rd w A L.flatten ∧ EntsAt w L b
theorem BatAt.grown {w w' : World} {x : List Value} {F : Nat} {b : List Ent} (h : BatAt w x F b) (hb : Below w.heap.size w w') : BatAt w' x F b := by
  obtain ⟨A, c, L, e, h1, h2⟩ := h
  exact ⟨A, c, L, e, h1.grown hb, h2.grown hb⟩
structure BatsAt (w : World) (X : List (List Value)) (Fs : List Nat) (bs : List (List Ent)) : Prop where
  len : X.length = bs.length
  lenF : Fs.length = bs.length
  at_ : ∀ (i : Nat) (x : List Value) (F : Nat) (b : List Ent), X[i]? = some x → Fs[i]? = some F → bs[i]? = some b → BatAt w x F b
theorem BatAt.two {w : World} {x : List Value} {F : Nat} {b : List Ent} (h : BatAt w x F b) : x.length = 2 := by
  obtain ⟨A, c, L, rfl, _⟩ := h; rfl
theorem BatsAt.all2 [Inhabited LoT] {w : World} {X : List (List Value)} {Fs : List Nat} {bs : List (List Ent)} (h : BatsAt w X Fs bs) : ∀ x ∈ X, x.length = 2 := by
  intro x hx
  obtain ⟨i, hi, rfl⟩ := List.getElem_of_mem hx
  have h1 := h.len; have h2 := h.lenF
  exact (h.at_ i X[i] (Fs[i]'(by omega)) (bs[i]'(by omega)) (by simp [hi]) (by simp) (by simp)).two
def Rbs (n : Nat) (bs : List (List Ent)) (k : Nat) : List Rt := (List.range (k + 1)).map fun i => Sn.root n (bs.take i).flatten
theorem Rbs_len (n : Nat) (bs : List (List Ent)) (k : Nat) : (Rbs n bs k).length = k + 1 := by simp [Rbs]
theorem Rbs_succ (n : Nat) (bs : List (List Ent)) (k : Nat) : Rbs n bs (k + 1) = Rbs n bs k ++ [Sn.root n (bs.take (k + 1)).flatten] := by
  unfold Rbs; rw [List.range_succ, List.map_append]; rfl
theorem Rbs_zero (n : Nat) (bs : List (List Ent)) : Rbs n bs 0 = [Sn.root n []] := by simp [Rbs]
theorem flatten_take_le {α : Type} (bs : List (List α)) (j : Nat) : (bs.take j).flatten.length ≤ bs.flatten.length := by
  conv => rhs; rw [← List.take_append_drop j bs, List.flatten_append, List.length_append]
  omega
set_option maxHeartbeats 2000000 in
set_option maxRecDepth 100000 in
theorem build_ok [Inhabited LoT] (n : Nat) (h1 : 1 ≤ n) (h2 : n ≤ 32) (bs : List (List Ent)) (Fs : List Nat) (A : Option Addr) (m c : Nat) (X : List (List Value)) (w : World) (hw : Words w) (hm : bs.length = m) (hA : Rd w A X.flatten) (hX : BatsAt w X Fs bs) (hF : ∀ i, i < bs.length → Fs[i]? = some (bs.take i).flatten.length) (hck : ∀ i (hi : i < bs.length), En.bchk (bs.take i).flatten.length bs[i] = 0) (hn : m + 2 < 1048576) (htot : bs.flatten.length < 1048576) (hlo : Lo ≤ w.heap.size) :
    Calls Tryz.prog 19 #[.int .i64 n, .slice A m c] w fun e w' => ∃ b S, e = .returned (.tuple #[ptr b, .int .i64 0]) ∧ Below w.heap.size w w' ∧ SnapAt S w' n b bs.flatten (Rbs n bs m) := by
  have HA := hid (And.intro hA (And.intro hX (And.intro hF (And.intro hck (And.intro hw (And.intro hm htot))))))
  have HLO := hid hlo
  clear hA hX hF hck hw hm htot hlo
  go_enter Tryz.func19, Tryz.ntmps19
  go_wp2_with (go_at_call 38
               refine (snew_ok n h1 h2 w HA.out.2.2.2.2.1 HLO.out).mono ?_
               rintro e w1 ⟨b1, rfl, hb1, hs1⟩
               have H1 := hid (And.intro hb1 hs1)
               clear hb1 hs1)
  go_loopg [6, 7, 17] m (fun g s6 s7 i wr => ∃ j b S : Nat, j + g = m ∧ s6 = ptr b ∧ s7 = .int .i64 0 ∧ i = .int .i64 j ∧ SnapAt S wr n b (bs.take j).flatten (Rbs n bs j) ∧ Below w.heap.size w wr)
  case atStart => exact ⟨0, b1, _, by omega, rfl, rfl, rfl, by rw [Rbs_zero]; exact H1.out.2, H1.out.1⟩
  case round =>
    clear H1
    obtain ⟨j, b, S, hj, rfl, rfl, rfl, hs, hbl⟩ := hrel
    have HR := hid (And.intro hs hbl)
    clear hs hbl
    by_cases hlt : j < m
    · have hjb : j < bs.length := by rw [HA.out.2.2.2.2.2.1]; exact hlt
      have hl1 := HA.out.2.1.len
      have hl2 := HA.out.2.1.lenF
      have hjX : j < X.length := by omega
      obtain ⟨g, o, rfl, hr⟩ := HA.out.1 (by
        intro e
        have := flatten_len 2 _ HA.out.2.1.all2
        rw [e] at this
        simp at this; omega)
      have hp := range_part hr HA.out.2.1.all2 j hjX
      obtain ⟨A1, c1, L1, hx, hr1, he1⟩ := HA.out.2.1.at_ j X[j] (bs.take j).flatten.length bs[j] (by simp [hjX]) (HA.out.2.2.1 j hjb) (by simp [hjb])
      rw [hx] at hp
      have hlb := range_lt hp (by simp)
      have hp2 := range_below hp HR.out.2 hlb
      have hnx : (bs.take (j + 1)).flatten = (bs.take j).flatten ++ bs[j] := by rw [List.take_succ_eq_append_getElem hjb, List.flatten_append]; simp
      have hrs := Rbs_succ n bs j
      have htl := flatten_take_le bs (j + 1)
      rw [hnx, List.length_append] at htl
      have happ := sapply_ok S b n h1 h2 (bs.take j).flatten bs[j] (Rbs n bs j) A1 c1 L1
      have hck := HA.out.2.2.2.1 j hjb
      obtain ⟨F, hFe⟩ : ∃ F, F = (bs.take j).flatten.length := ⟨_, rfl⟩
      obtain ⟨M, hM⟩ : ∃ M, M = bs[j].length := ⟨_, rfl⟩
      rw [← hFe, ← hM] at hp2
      have hcall : ∀ w', Below w.heap.size w w' → SnapAt S w' n b (bs.take j).flatten (Rbs n bs j) → Calls Tryz.prog 40 #[ptr b, .agg #[.int .u64 F, .slice A1 M c1]] w' fun e w'' => ∃ b', e = .returned (.tuple #[ptr b', .int .i64 0]) ∧ Below w'.heap.size w' w'' ∧ SnapAt w'.heap.size w'' n b' ((bs.take j).flatten ++ bs[j]) (Rbs n bs j ++ [Sn.root n ((bs.take j).flatten ++ bs[j])]) := fun w' hb hs => by
        rw [hFe, hM]
        exact happ w' (HA.out.2.2.2.2.1.below hb) hs (hr1.grown hb) (he1.grown hb) (by have := HA.out.2.2.2.2.2.2; omega) (by rw [Rbs_len]; omega) hck
      rw [← hnx] at hcall
      have hoc : ∀ v ∈ [Value.int .u64 F, .slice A1 M c1], v.oneCell' = true := fun v hv => by
        simp only [List.mem_cons, List.not_mem_nil, or_false] at hv
        rcases hv with rfl | rfl <;> rfl
      have hp9 := (Blk.new wr 47 [.int .u64 F, .slice A1 M c1]).whole
      have HC := hid (And.intro hcall (And.intro hrs (below_box wr (.cells [Value.int .u64 F, .slice A1 M c1].toArray 47))))
      clear hcall hrs hnx htl happ hck hr hr1 he1 hx hp hlb hFe hM hl1 hl2
      go_wp2_with (first
        | ((with_reducible refine ld_mid 47 (.tmp 19) g (o + j * 2) _ 2 _ rfl hp2 Tryz.underlying47 rfl (by kernel_rfl) ?_ ?_ ?_ ?_); rfl; rfl; rfl)
        | ((with_reducible refine st_new 47 (.tmp 9) (.tmp 20) _ _ [.int .u64 F, .slice A1 M c1] 2 rfl ?_ (by kernel_rfl) hoc ?_ ?_ ?_ ?_ ?_); rfl; rfl; rfl; rfl; rfl)
        | ((with_reducible refine ld_mid 47 (.tmp 9) wr.heap.size 0 _ 2 _ rfl hp9 Tryz.underlying47 rfl (by kernel_rfl) ?_ ?_ ?_ ?_); rfl; rfl; rfl)
        | (go_at_call 40
           refine (HC.out.1 _ (gro HR.out.2 HC.out.2.2) (HR.out.1.grown HC.out.2.2)).mono ?_
           rintro e w5 ⟨b5, rfl, hb5, hs5⟩
           have H5 := hid (And.intro (gro HC.out.2.2 hb5) hs5)
           clear hb5 hs5))
      go_roundg (gk - 1)
      case measure => omega
      case rel => exact ⟨j + 1, b5, _, by omega, rfl, rfl, by go_num, by rw [HC.out.2.1]; exact H5.out.2, gro HR.out.2 H5.out.1⟩
    · obtain rfl : j = m := by omega
      have hfin := HR.out.1
      rw [List.take_of_length_le (by rw [HA.out.2.2.2.2.2.1]; exact Nat.le_refl _)] at hfin
      have HF := hid hfin
      clear hfin
      go_wp2_with fail
      go_ret2
      exact ⟨b, S, rfl, HR.out.2, HF.out⟩
end Go.Proofs.YtpnakfeafekneaaGreatDoor
