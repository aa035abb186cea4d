/- Part 37 of this proof: VW, VX, VY, VZ, YA. -/
import Derived.Test.YtpnakfeafekneaaGreatDoorG36
set_option linter.unusedSimpArgs false
set_option linter.unusedVariables false
/- The reference's log: notaryref12's Split, Log. -/
namespace Go.Proofs.YtpnakfeafekneaaGreatDoor
open Go.RowKit
set_option maxRecDepth 100000 in
theorem rsplit_any (n : Nat) (w : World) (h1 : 2 ≤ n) (hn : n < 1099511627776) : Calls Tryz.prog 98 #[.int .u64 n] w fun e w' => e = .returned (.int .u64 (Mt.below n)) ∧ w = w' := by
  go_enter Tryz.func98, Tryz.ntmps98
  go_wp2_with fail
  go_loopg [3] (n - 1) (fun g s3 wr => ∃ k : Nat, k + g = n ∧ 0 < k ∧ k < n ∧ s3 = .int .u64 k ∧ Hid (∃ i, k = 2 ^ i) ∧ wr = w)
  case atStart => exact ⟨1, by omega, by omega, by omega, rfl, ⟨0, rfl⟩, rfl⟩
  case round =>
    obtain ⟨k, hk, hk0, hkn, rfl, hp, rfl⟩ := hrel
    by_cases hle : k ≤ (n - 1) / 2
    · have hc : (k : Int) ≤ ((n : Int) - 1) / 2 := by omega
      go_wp2_with fail
      go_roundg (n - 2 * k)
      case measure => omega
      case rel => exact ⟨2 * k, by omega, by omega, by omega, by go_num, by obtain ⟨i, hi⟩ := hp.out; exact ⟨i + 1, by rw [hi, Nat.pow_succ]; omega⟩, rfl⟩
    · have hc : ¬ (k : Int) ≤ ((n : Int) - 1) / 2 := by omega
      have hb : Mt.below n = k := by
        obtain ⟨i, hi⟩ := hp.out
        rw [hi]; exact Mt.below_eq n i h1 (by omega) (by omega)
      have HB := hid hb
      clear hb
      go_wp2_with fail
      go_ret
      exact ⟨by rw [HB.out]; rfl, rfl⟩
theorem Mt.log_len (n : Nat) (h2 : n ≤ 32) (ds : List (List UInt8)) (hd : ∀ d ∈ ds, d.length = 32) : (Mt.log n ds).length = 32 := by
  rcases ds with _ | ⟨d, _ | ⟨d2, r⟩⟩
  · rw [Mt.log_nil]; exact Dg.sum_length n _ h2
  · rw [Mt.log_one]; exact hd d (by simp)
  · rw [Mt.log_two n _ (by simp)]; exact Dg.sum_length n _ h2
theorem range_halves {w : World} {g o : Nat} {X Y : List Value} (h : w.rangeAt g o (X ++ Y)) : w.rangeAt g o X ∧ w.rangeAt g (o + X.length) Y := by
  constructor
  · intro j v hj
    have hl : j < X.length := (List.getElem?_eq_some_iff.1 hj).1
    exact h j v (by rw [List.getElem?_append_left hl]; exact hj)
  · intro j v hj
    have := h (X.length + j) v (by rw [List.getElem?_append_right (by omega)]; simpa using hj)
    rw [Nat.add_assoc]; exact this
theorem dgs_halves (ds : List (List UInt8)) (k : Nat) : (dgs ds).flatten = (dgs (ds.take k)).flatten ++ (dgs (ds.drop k)).flatten := by
  rw [← List.flatten_append]; unfold dgs; rw [← List.map_append, List.take_append_drop]
set_option maxHeartbeats 1000000 in
set_option maxRecDepth 100000 in
theorem rlog_any (n : Nat) (h2 : n ≤ 32) (N : Nat) : ∀ (ds : List (List UInt8)), ds.length = N → ∀ (A : Option Addr) (m c : Nat) (w : World), ds.length = m → (∀ d ∈ ds, d.length = 32) → Rd w A (dgs ds).flatten → m ≤ c → m < 1048576 →
    Calls Tryz.prog 61 #[.int .i64 n, .slice A m c] w fun e w' => e = .returned (dg (Mt.log n ds)) ∧ Below w.heap.size w w' := by
  induction N using Nat.strongRecOn with
  | _ N ih =>
    intro ds hN A m c w hm hd hA hc hm20
    have hll := Mt.log_len n h2 ds hd
    have hl : ((Mt.log n ds).map b8).length = 32 := by rw [List.length_map, hll]
    have hb0 := Blk.new w 40 (List.replicate 32 (b8 0))
    have hbl := below_box w (.cells (List.replicate 32 (b8 0)).toArray 40)
    have ht0 := hb0.there 0 32 (by simp)
    have HI := hid ih
    have HB := hid (And.intro hb0 hbl)
    have HA := hid (And.intro hN (And.intro hm (And.intro hd hA)))
    clear ih hb0 hbl hN hm hd hA hll
    rcases Nat.lt_or_ge m 2 with hm2 | hm2
    · rcases Nat.lt_or_ge m 1 with hm1 | hm1
      · obtain rfl : m = 0 := by omega
        obtain rfl : ds = [] := List.length_eq_zero_iff.1 HA.out.2.1
        rw [Mt.log_nil] at hl ⊢
        obtain ⟨D, hD⟩ : ∃ D, D = Dg.noLog n := ⟨_, rfl⟩
        rw [← hD] at hl ⊢
        have HD := hid hD
        clear hD ht0
        go_enter Tryz.func61, Tryz.ntmps61
        go_wp2_with (first
          | (go_at_call 97
             refine (rnolog_any n _ h2).mono ?_
             rintro e w2 ⟨rfl, hb2⟩
             rw [← HD.out]
             have ht := (HB.out.1.grown hb2).there 0 32 (by simp)
             have H2 := hid (gro HB.out.2 hb2)
             clear hb2)
          | ((with_reducible refine st_mid 40 (.tmp 4) (.tmp 11) w.heap.size 0 _ 32 hl ht (by kernel_rfl) (one_b8 _) ?_ ?_ ?_ ?_ ?_); rfl; rfl; rfl; rfl))
        exact rt_cell w.heap.size 0 _ 32 _ hl (World.rangeAt_setCells_same _ _ _ _ (by rw [hl]; exact ht)) Tryz.underlying40 rfl (by kernel_rfl) rfl rfl rfl ⟨rfl, below_setCells _ (Nat.le_refl _) _ _ _ H2.out⟩
      · obtain rfl : m = 1 := by omega
        obtain ⟨d, rfl⟩ := List.length_eq_one_iff.1 HA.out.2.1
        rw [Mt.log_one] at hl ⊢
        obtain ⟨g, o, rfl, hr⟩ := HA.out.2.2.2 (by
          intro e
          have h1 : (dgs [d]).flatten = d.map b8 := by simp [dgs]
          rw [h1] at e; rw [e] at hl; simp at hl)
        rw [show (dgs [d]).flatten = d.map b8 from by simp [dgs]] at hr
        have hp0 := range_grown hr HB.out.2
        have HP := hid (And.intro hp0 (And.intro ht0 HB.out.2))
        clear hr hp0 ht0
        go_enter Tryz.func61, Tryz.ntmps61
        go_upto_region 5 with fail
        refine wp_world (fun w' => w'.rangeAt g o (d.map b8) ∧ w'.there w.heap.size 0 32 ∧ Below w.heap.size w w') HP.out ?_
        rintro w1 ⟨hp, ht0, hbl⟩
        have HBl := hid hbl
        clear hbl HP
        go_wp2_with (first
          | ((with_reducible refine ld_mid 40 (.tmp 15) g o _ 32 _ hl hp Tryz.underlying40 rfl (by kernel_rfl) ?_ ?_ ?_ ?_); rfl; rfl; rfl)
          | ((with_reducible refine st_mid 40 (.tmp 4) (.tmp 16) w.heap.size 0 _ 32 hl ht0 (by kernel_rfl) (one_b8 _) ?_ ?_ ?_ ?_ ?_); rfl; rfl; rfl; rfl))
        exact rt_cell w.heap.size 0 _ 32 _ hl (World.rangeAt_setCells_same _ _ _ _ (by rw [hl]; exact ht0)) Tryz.underlying40 rfl (by kernel_rfl) rfl rfl rfl ⟨rfl, below_setCells _ (Nat.le_refl _) _ _ _ HBl.out⟩
    · have hm0 : ¬ (m : Int) = 0 := by omega
      have hm1 : ¬ (m : Int) = 1 := by omega
      have hk1 := Mt.below_lt m hm2
      have hk0 := Mt.below_pos m
      have hlog := Mt.log_two n ds (by rw [HA.out.2.1]; exact hm2)
      rw [HA.out.2.1] at hlog
      obtain ⟨k, hk⟩ : ∃ k, k = Mt.below m := ⟨_, rfl⟩
      rw [← hk] at hk1 hk0 hlog
      have hX : ∀ d ∈ ds.take k, d.length = 32 := fun d h => HA.out.2.2.1 d (List.mem_of_mem_take h)
      have hY : ∀ d ∈ ds.drop k, d.length = 32 := fun d h => HA.out.2.2.1 d (List.mem_of_mem_drop h)
      have hXl : (ds.take k).length = k := by rw [List.length_take, HA.out.2.1]; omega
      have hYl : (ds.drop k).length = m - k := by rw [List.length_drop, HA.out.2.1]
      obtain ⟨g, o, rfl, hr⟩ := HA.out.2.2.2 (by
        intro e
        have := flatten_len 32 _ (dgs_len HA.out.2.2.1)
        rw [e, show (dgs ds).length = m from by simp [dgs, HA.out.2.1]] at this
        simp at this; omega)
      rw [dgs_halves ds k] at hr
      obtain ⟨hr1, hr2⟩ := range_halves hr
      rw [flatten_len 32 _ (dgs_len hX), show (dgs (ds.take k)).length = k from by simp only [dgs, List.length_map]; exact hXl] at hr2
      obtain ⟨X, hXe⟩ : ∃ X, X = Mt.log n (ds.take k) := ⟨_, rfl⟩
      obtain ⟨Y, hYe⟩ : ∃ Y, Y = Mt.log n (ds.drop k) := ⟨_, rfl⟩
      have hX32 : X.length = 32 := by rw [hXe]; exact Mt.log_len n h2 _ hX
      have hY32 : Y.length = 32 := by rw [hYe]; exact Mt.log_len n h2 _ hY
      rw [← hXe, ← hYe] at hlog
      have s1 := run_slice_to (P := Tryz.prog) Tryz.underlying105 (e := 40) (size := 32) (by kernel_rfl) g o m c k (by omega)
      have s2 := run_slice_from (P := Tryz.prog) Tryz.underlying105 (e := 40) (size := 32) (by kernel_rfl) g o m c k (by omega) (by omega)
      obtain ⟨o2, ho2⟩ : ∃ o2, o2 = o + k * 32 := ⟨_, rfl⟩
      obtain ⟨m2, hm2'⟩ : ∃ m2, m2 = m - k := ⟨_, rfl⟩
      obtain ⟨c2, hc2⟩ : ∃ c2, c2 = c - k := ⟨_, rfl⟩
      rw [← ho2] at hr2
      rw [← ho2, ← hm2', ← hc2] at s2
      have hcx : ∀ w', Below w.heap.size w w' → Calls Tryz.prog 61 #[.int .i64 n, .slice (some ⟨g, o, none⟩) k c] w' fun e w'' => e = .returned (dg X) ∧ Below w'.heap.size w' w'' := fun w' hb => by
        rw [hXe]; exact HI.out k (by have := HA.out.1; have := HA.out.2.1; omega) (ds.take k) hXl _ k c w' hXl hX ((Rd.of _ hr1).grown hb) (by omega) (by omega)
      have hcy : ∀ w', Below w.heap.size w w' → Calls Tryz.prog 61 #[.int .i64 n, .slice (some ⟨g, o2, none⟩) m2 c2] w' fun e w'' => e = .returned (dg Y) ∧ Below w'.heap.size w' w'' := fun w' hb => by
        rw [hYe, hm2']; exact HI.out (m - k) (by have := HA.out.1; have := HA.out.2.1; omega) (ds.drop k) hYl _ (m - k) c2 w' hYl hY ((Rd.of _ hr2).grown hb) (by omega) (by omega)
      obtain ⟨D, hD⟩ : ∃ D, D = Mt.log n ds := ⟨_, rfl⟩
      rw [← hD] at hl hlog ⊢
      have HC := hid (And.intro hcx (And.intro hcy (And.intro hlog (And.intro hX32 hY32))))
      have HK := hid hk
      clear hcx hcy hlog hX32 hY32 hXe hYe hD hk hr hr1 hr2 hX hY hXl hYl ho2 hm2' hc2 HI
      go_enter Tryz.func61, Tryz.ntmps61
      go_upto_region 7 with (first
        | (go_at_call 98
           refine (rsplit_any m _ hm2 (by omega)).mono ?_
           rintro e w2 ⟨rfl, rfl⟩
           rw [← HK.out]))
      refine wp_world (fun w' => Blk w' w.heap.size 40 (List.replicate 32 (b8 0)) ∧ Below w.heap.size w w') HB.out ?_
      rintro w1 ⟨hb1, hbl1⟩
      have H1 := hid (And.intro hb1 hbl1)
      clear hb1 hbl1 HB ht0
      refine wp_region_fut_tail 12 (by kernel_rfl) (by kernel_rfl) ?_
      dsimp only [List.take_succ_cons, List.take_zero, List.drop_succ_cons, List.drop_zero]
      repeat go_big_quiet_step (first
        | (with_reducible exact Calls.fut_of (HC.out.1 _ (gro H1.out.2 (Fut.below _))))
        | (with_reducible exact Calls.fut_of (HC.out.2.1 _ (gro H1.out.2 (Fut.below _))))
        | (with_reducible exact Calls.fut_of (rnode_any n X Y _ h2 HC.out.2.2.2.1 HC.out.2.2.2.2)))
      refine wpQuiet_nil ?_
      rintro _ ⟨s, rfl⟩
      have ht := (H1.out.1.grown s.below).there 0 32 (by simp)
      have hbs := gro H1.out.2 s.below
      rw [← HC.out.2.2.1]
      (refine st_mid 40 (.tmp 4) (.tmp 33) w.heap.size 0 _ 32 hl ht (by kernel_rfl) (one_b8 _) ?_ ?_ ?_ ?_ ?_); rfl; rfl; rfl; rfl
      go_wp2_with fail
      exact rt_cell w.heap.size 0 _ 32 _ hl (World.rangeAt_setCells_same _ _ _ _ (by rw [hl]; exact ht)) Tryz.underlying40 rfl (by kernel_rfl) rfl rfl rfl ⟨rfl, below_setCells _ (Nat.le_refl _) _ _ _ hbs⟩
end Go.Proofs.YtpnakfeafekneaaGreatDoor

/- The reference's leaves: notaryref17.Leaves. -/
namespace Go.Proofs.YtpnakfeafekneaaGreatDoor
open Go.RowKit
theorem info_dgr : (Tryz.prog.info? 40).map (fun i => (i.zero, i.size, i.bytes)) = some (some (.agg (List.replicate 32 (.int .u8 0)).toArray), 32, 32) := by kernel_rfl
theorem en_bytes_len (e : Ent) (hk : e.key.length < 1048576) (hv : e.val.length < 1048576) : (En.bytes e).length < 4194304 := by
  have h1 := Wi.uvar_length 9 e.key.length (by omega)
  have h2 := Wi.uvar_length 9 e.val.length (by omega)
  unfold En.bytes Wi.blob
  split <;> simp only [List.length_cons, List.length_append, List.length_nil] <;> omega
theorem leaves_take (n : Nat) (es : List Ent) (j : Nat) (hj : j < es.length) : (dgs (Sn.leaves n (es.take (j + 1)))).flatten = (dgs (Sn.leaves n (es.take j))).flatten ++ (Dg.leaf n (En.bytes es[j])).map b8 := by
  unfold Sn.leaves dgs
  rw [List.take_succ_eq_append_getElem hj, List.map_append, List.map_append, List.flatten_append, List.map_singleton, List.map_singleton, List.flatten_singleton]
theorem leaf_len (n : Nat) (h2 : n ≤ 32) (p : List UInt8) : (Dg.leaf n p).length = 32 := Dg.sum_length n _ h2
set_option maxHeartbeats 2000000 in
set_option maxRecDepth 100000 in
theorem rleaves_any (n : Nat) (h2 : n ≤ 32) (es : List Ent) (A : Option Addr) (m c : Nat) (L : List (List Value)) (w : World) (hm : es.length = m) (hA : Rd w A L.flatten) (hE : EntsAt w L es) (hn : m < 1048576) (hb : ∀ e ∈ es, e.key.length < 1048576 ∧ e.val.length < 1048576) :
    Calls Tryz.prog 62 #[.int .i64 n, .slice A m c] w fun e w' => ∃ Ar cr, e = .returned (.slice Ar m cr) ∧ Below w.heap.size w w' ∧ Rd w' Ar (dgs (Sn.leaves n es)).flatten ∧ m ≤ cr := by
  have HA := hid (And.intro hA (And.intro hE hb))
  clear hA hE hb
  go_enter Tryz.func62, Tryz.ntmps62
  go_wp2_with fail
  go_loopg [5, 10] m (fun g s3 i wr => ∃ (j : Nat) (Ar : Option Addr) (cr : Nat), j + g = m ∧ i = .int .i64 j ∧ s3 = .slice Ar j cr ∧ wr.ownsRow w.heap.size 40 32 (.slice Ar j cr) j (dgs (Sn.leaves n (es.take j))).flatten ∧ Below w.heap.size w wr)
  case atStart => exact ⟨0, none, 0, by omega, rfl, rfl, World.ownsRow_nil _ _ _ _, Below.refl _ _⟩
  case round =>
    obtain ⟨j, Ar, cr, hj, rfl, rfl, ho, hbl⟩ := hrel
    have HR := hid (And.intro ho hbl)
    clear ho hbl
    by_cases hlt : j < m
    · have hje : j < es.length := by omega
      have hnx := leaves_take n es j hje
      obtain ⟨kind, key, val, hjj⟩ : ∃ kind key val, es[j]? = some ⟨kind, key, val⟩ := ⟨es[j].kind, es[j].key, es[j].val, by simp [hje]⟩
      rw [(List.getElem?_eq_some_iff.1 hjj).2] at hnx
      have hL := HA.out.2.1.len
      have hjl : j < L.length := by omega
      obtain ⟨g, o, rfl, hr⟩ := HA.out.1 (by
        intro e
        have := flatten_len 3 _ HA.out.2.1.three
        rw [e] at this
        simp at this; omega)
      have hp := range_part hr HA.out.2.1.three j hjl
      have hbk := HA.out.2.2 _ (List.mem_of_getElem? hjj)
      obtain ⟨A1, c1', A2, c2', hx, hr1, hr2, hc1, hc2⟩ := HA.out.2.1.at_ j L[j] ⟨kind, key, val⟩ (by simp [hjl]) hjj
      rw [hx] at hp
      simp only [] at hp
      have hlb := range_lt hp (by simp)
      have hp2 := range_below hp HR.out.2 hlb
      have hea : EntAt w [b8 kind, .slice A1 key.length c1', .slice A2 val.length c2'] ⟨kind, key, val⟩ := ⟨A1, c1', A2, c2', rfl, hr1, hr2, hc1, hc2⟩
      have hoc : ∀ v ∈ [b8 kind, .slice A1 key.length c1', .slice A2 val.length c2'], v.oneCell' = true := fun v hv => by
        simp only [List.mem_cons, List.not_mem_nil, or_false] at hv
        rcases hv with rfl | rfl | rfl <;> rfl
      have hp9 := (Blk.new wr 36 [b8 kind, .slice A1 key.length c1', .slice A2 val.length c2']).whole
      have HB := hid (below_box wr (.cells [b8 kind, .slice A1 key.length c1', .slice A2 val.length c2'].toArray 36))
      have HX := hid (And.intro hea (And.intro hbk hnx))
      have h63 : j + 1 ≤ maxLen := by simp only [maxLen]; omega
      have hby : (j + 1) * 32 ≤ 140737488355328 := by omega
      clear hr hr1 hr2 hx hp hc1 hc2 hL hlb hea hbk hnx
      go_wp2_with (first
        | ((with_reducible refine ld_mid 36 (.tmp 12) g (o + j * 3) _ 3 _ rfl hp2 Tryz.underlying36 rfl (by kernel_rfl) ?_ ?_ ?_ ?_); rfl; rfl; rfl)
        | ((with_reducible refine st_new 36 (.tmp 7) (.tmp 13) _ _ [b8 kind, .slice A1 key.length c1', .slice A2 val.length c2'] 3 rfl ?_ (by kernel_rfl) hoc ?_ ?_ ?_ ?_ ?_); rfl; rfl; rfl; rfl; rfl)
        | ((with_reducible refine ld_mid 36 (.tmp 7) wr.heap.size 0 _ 3 _ rfl hp9 Tryz.underlying36 rfl (by kernel_rfl) ?_ ?_ ?_ ?_); rfl; rfl; rfl)
        | (go_at_call 100
           refine (rleaf_any n A6 n6 c6 (En.bytes ⟨kind, key, val⟩) w6 h2 H6.out.1 H6.out.2.1 (by have h1 := en_bytes_len ⟨kind, key, val⟩ HX.out.2.1.1 HX.out.2.1.2; have h3 := H6.out.1; omega)).mono ?_
           rintro e w7 ⟨rfl, hb7⟩
           obtain ⟨D, hD⟩ : ∃ D, D = Dg.leaf n (En.bytes ⟨kind, key, val⟩) := ⟨_, rfl⟩
           rw [← hD]
           have hDl : D.length = 32 := (by rw [hD]; exact leaf_len n h2 _)
           have hyl : ∀ x ∈ [D.map b8], x.length = 32 := (fun x hx => by rw [List.mem_singleton] at hx; subst hx; simp [hDl])
           have hyl2 : [D.map b8].flatten.length = 1 * 32 := (by simp [hDl])
           have hyo : ∀ v ∈ [D.map b8].flatten, v.oneCell' = true := (fun v hv => one_b8 D v (by simpa using hv))
           have hb8 := gro (gro H6.out.2.2 hb7) (below_box w7 (.cells [D.map b8].flatten.toArray 40))
           have own8 := own_grown HR.out.1 hb8
           have hr8 := Rd.of _ (Blk.new w7 40 [D.map b8].flatten).whole
           have hbs8 := (gro HR.out.2 hb8).size
           have H8 := hid (And.intro hb8 (And.intro own8 (And.intro hr8 hD)))
           clear hb7 hb8 own8 hr8 hD hDl)
        | (go_at_call 101
           refine (rbytes_any _ ⟨kind, key, val⟩ _ (HX.out.1.grown (gro HR.out.2 HB.out)) HX.out.2.1.1 HX.out.2.1.2).mono ?_
           rintro e w6 ⟨A6, c6, n6, hn6, rfl, hb6, ho6⟩
           have H6 := hid (And.intro hn6 (And.intro (own_rd ho6).1 (gro HB.out hb6)))
           clear hn6 hb6 ho6)
        | ((with_reducible refine bs_own 105 40 1 #[(0, .tmp 18)] [D.map b8] 32 (by decide) hyl rfl (by decide) (by decide) Tryz.underlying105 (by kernel_rfl) ?_ ?_ ?_ ?_); rfl; rfl; rfl)
        | ((with_reducible refine ap_own (.tmp 14) (.tmp 19) 105 Tryz.underlying105 info_dgr rfl (by decide) H8.out.2.1 1 1 hyl2 H8.out.2.2.1 hyo h63 hby hbs8 ?_ ?_ ?_ ?_ ?_); rfl; rfl; rfl; rfl
           intro v9 w9 hn1 hn2 hn3 hn4
           obtain ⟨A9, c9, rfl, hr9, hc9⟩ := rd_own hn1
           have hb9 := grownBy_below H8.out.2.1 (gro HR.out.2 H8.out.1) hbs8 hn2
           have H9 := hid (And.intro hn1 hb9)
           clear hn1 hn2 hn3 hn4 hr9 hc9 hb9))
      go_roundg (gk - 1)
      case measure => omega
      case rel =>
        refine ⟨j + 1, A9, c9, by omega, by go_num, rfl, ?_, H9.out.2⟩
        rw [HX.out.2.2, ← H8.out.2.2.2]
        have := H9.out.1
        simpa using this
    · obtain rfl : j = m := by omega
      have hel := HR.out.1
      rw [← hm, List.take_length, hm] at hel
      have h9 := own_rd hel
      have HE9 := hid h9
      clear hel h9
      go_wp2_with fail
      go_ret
      exact ⟨Ar, cr, rfl, HR.out.2, HE9.out.1, HE9.out.2⟩
end Go.Proofs.YtpnakfeafekneaaGreatDoor

/- The law's own comparisons: notaryref01.Same, notaryref14.less. -/
namespace Go.Proofs.YtpnakfeafekneaaGreatDoor
open Go.RowKit
namespace Lx
/-- The difference at the first place where two lists differ. -/
def less : List UInt8 → List UInt8 → Int
  | [], b => -(b.length : Int)
  | a :: r, [] => ((a :: r).length : Int)
  | x :: xs, y :: ys => if x = y then less xs ys else n8 x - n8 y
theorem cmpB_less {x y : UInt8} (h : x ≠ y) : (n8 x - n8 y < 0 ↔ cmpB x y < 0) ∧ cmpB x y ≠ 0 ∧ n8 x - n8 y ≠ 0 := by
  have h1 : n8 x ≠ n8 y := fun e => h (n8_inj e)
  have h2 : x < y ↔ n8 x < n8 y := by unfold n8; rw [UInt8.lt_iff_toNat_lt]; omega
  have h3 : y < x ↔ n8 y < n8 x := by unfold n8; rw [UInt8.lt_iff_toNat_lt]; omega
  unfold cmpB
  split
  · rename_i hh; have := h2.1 hh; exact ⟨by omega, by omega, by omega⟩
  · rename_i hh
    split
    · rename_i hh2; have := h3.1 hh2; exact ⟨by omega, by omega, by omega⟩
    · rename_i hh2; exfalso; have a1 : ¬ n8 x < n8 y := fun h => hh (h2.2 h); have a2 : ¬ n8 y < n8 x := fun h => hh2 (h3.2 h); omega
theorem less_cmp : ∀ (a b : List UInt8), (less a b < 0 ↔ cmp a b < 0) ∧ (less a b = 0 ↔ cmp a b = 0)
  | [], [] => by simp [less, cmp]
  | [], _ :: _ => by simp [less, cmp]; omega
  | _ :: _, [] => by simp [less, cmp]; omega
  | x :: xs, y :: ys => by
    unfold less cmp
    by_cases h : x = y
    · subst h; rw [if_pos rfl, cmpB_self]; simpa using less_cmp xs ys
    · obtain ⟨h1, h2, h3⟩ := cmpB_less h
      rw [if_neg h, if_pos h2]
      exact ⟨h1, ⟨fun e => absurd e h3, fun e => absurd e h2⟩⟩
theorem less_bound : ∀ (a b : List UInt8), -(b.length : Int) - 256 < less a b ∧ less a b < (a.length : Int) + 256
  | [], b => by simp [less]; omega
  | a :: r, [] => by simp [less]; omega
  | x :: xs, y :: ys => by
    unfold less
    have h1 := n8_lt x; have h2 := n8_nonneg x; have h3 := n8_lt y; have h4 := n8_nonneg y
    split
    · have := less_bound xs ys; simp only [List.length_cons]; omega
    · simp only [List.length_cons]; omega
theorem less_drop {a b : List UInt8} {j : Nat} (h1 : j < a.length) (h2 : j < b.length) : less (a.drop j) (b.drop j) = if a[j] = b[j] then less (a.drop (j + 1)) (b.drop (j + 1)) else n8 a[j] - n8 b[j] := by
  rw [List.drop_eq_getElem_cons h1, List.drop_eq_getElem_cons h2, less]
theorem less_end {a b : List UInt8} {j : Nat} (h0 : j ≤ a.length) (h1 : j ≤ b.length) (h : j = a.length ∨ j = b.length) : less (a.drop j) (b.drop j) = (a.length : Int) - b.length := by
  rcases h with rfl | rfl
  · rw [List.drop_length]; simp only [less, List.length_drop]; omega
  · rw [List.drop_length]
    by_cases e : a.length = b.length
    · rw [List.drop_of_length_le (by omega)]; simp [less, e]
    · have : 0 < (a.drop b.length).length := by rw [List.length_drop]; omega
      obtain ⟨x, r, hx⟩ := List.exists_cons_of_length_pos this
      have hl : (a.drop b.length).length = a.length - b.length := List.length_drop
      rw [hx] at hl ⊢
      simp only [less]; rw [hl]; omega
end Lx
theorem wrap_small (x : Int) (h1 : -1024 ≤ x) (h2 : x < 1024) : wrap64 x = x := by unfold wrap64; omega
theorem wrap_diff (x y : UInt8) : wrap64 (wrap64 (n8 x) - wrap64 (n8 y)) = n8 x - n8 y := by
  have h1 := n8_lt x; have h2 := n8_nonneg x; have h3 := n8_lt y; have h4 := n8_nonneg y
  rw [wrap_small (n8 x) (by omega) (by omega), wrap_small (n8 y) (by omega) (by omega), wrap_small _ (by omega) (by omega)]
set_option maxRecDepth 100000 in
theorem same_any (A1 : Option Addr) (n1 c1 : Nat) (l1 : List UInt8) (A2 : Option Addr) (n2 c2 : Nat) (l2 : List UInt8) (w : World) (hn1 : l1.length = n1) (hn2 : l2.length = n2) (h1 : Rd w A1 (l1.map b8)) (h2 : Rd w A2 (l2.map b8)) (hl : n1 < 1099511627776) (hl2 : n2 < 1099511627776) :
    Calls Tryz.prog 36 #[.slice A1 n1 c1, .slice A2 n2 c2] w fun e w' => e = .returned (.bool (l1 == l2)) ∧ Below w.heap.size w w' := by
  have HA := hid (And.intro hn1 (And.intro hn2 (And.intro h1 h2)))
  clear hn1 hn2 h1 h2
  by_cases hne : n1 = n2
  · subst hne
    go_enter Tryz.func36, Tryz.ntmps36
    go_wp2_with fail
    go_loopg [13] n1 (fun g i wr => ∃ j : Nat, j + g = n1 ∧ i = .int .i64 j ∧ l1.take j = l2.take j ∧ Below w.heap.size w wr)
    case atStart => exact ⟨0, by omega, rfl, rfl, Below.refl _ _⟩
    case round =>
      obtain ⟨j, hj, rfl, he, hb⟩ := hrel
      have HI := hid (And.intro he hb)
      clear he hb
      by_cases hlt : j < n1
      · have hj1 : j < l1.length := by rw [HA.out.1]; exact hlt
        have hj2 : j < l2.length := by rw [HA.out.2.1]; exact hlt
        obtain ⟨g1, o1, rfl, hr1⟩ := HA.out.2.2.1 (by intro e; rw [← List.length_map (f := b8), e] at hj1; simp at hj1)
        obtain ⟨g2, o2, rfl, hr2⟩ := HA.out.2.2.2 (by intro e; rw [← List.length_map (f := b8), e] at hj2; simp at hj2)
        obtain ⟨x, hx⟩ : ∃ x, x = l1[j] := ⟨_, rfl⟩
        obtain ⟨y, hy⟩ : ∃ y, y = l2[j] := ⟨_, rfl⟩
        have hlb1 := range_lt hr1 (by simp; omega)
        have hlb2 := range_lt hr2 (by simp; omega)
        have q1 := Fut.cell (range_below hr1 HI.out.2 hlb1 j (b8 x) (by simp [hj1, hx]))
        have q2 := Fut.cell (range_below hr2 HI.out.2 hlb2 j (b8 y) (by simp [hj2, hy]))
        have HX := hid (And.intro hx hy)
        clear hx hy hr1 hr2 hlb1 hlb2
        go_upto_region 6 with fail
        refine wp_region_fut (by kernel_rfl) (by kernel_rfl) ?_
        repeat go_big_quiet_step (fail)
        refine wpQuiet_nil ?_
        rintro _ ⟨s, rfl⟩
        clear q1 q2
        by_cases hxy : x = y
        · subst hxy
          go_wp2_with fail
          go_roundg (gk - 1)
          case measure => omega
          case rel => exact ⟨j + 1, by omega, by go_num, by rw [List.take_succ_eq_append_getElem hj1, List.take_succ_eq_append_getElem hj2, HI.out.1, ← HX.out.1, ← HX.out.2], gro HI.out.2 s.below⟩
        · have hne2 : l1 ≠ l2 := fun e => hxy (by rw [HX.out.1, HX.out.2]; simp only [e])
          have HN := hid hne2
          clear hne2
          rw [show (n8 x != n8 y) = true from by simpa using fun e => hxy (n8_inj e)]
          go_wp2_with fail
          go_ret
          exact ⟨by rw [show (l1 == l2) = false from by simpa using HN.out]; rfl, gro HI.out.2 s.below⟩
      · obtain rfl : j = n1 := by omega
        have he := HI.out.1
        rw [List.take_of_length_le (by rw [HA.out.1]; exact Nat.le_refl _), List.take_of_length_le (by rw [HA.out.2.1]; exact Nat.le_refl _)] at he
        have HE := hid he
        clear he
        go_wp2_with fail
        go_ret
        exact ⟨by rw [HE.out]; simp, HI.out.2⟩
  · have hf : (l1 == l2) = false := by
      have : l1 ≠ l2 := fun e => hne (by rw [← HA.out.1, ← HA.out.2.1, e])
      simpa using this
    have HF := hid hf
    clear hf
    have hni : ¬ (n1 : Int) = (n2 : Int) := by omega
    go_enter Tryz.func36, Tryz.ntmps36
    go_wp2_with fail
    go_ret
    exact ⟨by rw [HF.out]; rfl, Below.refl _ _⟩
set_option maxRecDepth 100000 in
theorem less_any (A1 : Option Addr) (n1 c1 : Nat) (l1 : List UInt8) (A2 : Option Addr) (n2 c2 : Nat) (l2 : List UInt8) (w : World) (hn1 : l1.length = n1) (hn2 : l2.length = n2) (h1 : Rd w A1 (l1.map b8)) (h2 : Rd w A2 (l2.map b8)) (hl : n1 < 1099511627776) (hl2 : n2 < 1099511627776) :
    Calls Tryz.prog 198 #[.slice A1 n1 c1, .slice A2 n2 c2] w fun e w' => e = .returned (.int .i64 (Lx.less l1 l2)) ∧ Below w.heap.size w w' := by
  have HA := hid (And.intro hn1 (And.intro hn2 (And.intro h1 h2)))
  clear hn1 hn2 h1 h2
  go_enter Tryz.func198, Tryz.ntmps198
  go_wp2_with fail
  go_loopg [5] n1 (fun g i wr => ∃ j : Nat, j + g = n1 ∧ j ≤ n2 ∧ i = .int .i64 j ∧ Lx.less l1 l2 = Lx.less (l1.drop j) (l2.drop j) ∧ Below w.heap.size w wr)
  case atStart => exact ⟨0, by omega, by omega, rfl, rfl, Below.refl _ _⟩
  case round =>
    obtain ⟨j, hj, hjn2, rfl, he, hb⟩ := hrel
    have HI := hid (And.intro he hb)
    clear he hb
    by_cases hlt : j < n1 ∧ j < n2
    · obtain ⟨hlt1, hlt2⟩ := hlt
      have hj1 : j < l1.length := by rw [HA.out.1]; exact hlt1
      have hj2 : j < l2.length := by rw [HA.out.2.1]; exact hlt2
      obtain ⟨g1, o1, rfl, hr1⟩ := HA.out.2.2.1 (by intro e; rw [← List.length_map (f := b8), e] at hj1; simp at hj1)
      obtain ⟨g2, o2, rfl, hr2⟩ := HA.out.2.2.2 (by intro e; rw [← List.length_map (f := b8), e] at hj2; simp at hj2)
      have hld := Lx.less_drop hj1 hj2
      obtain ⟨x, hx⟩ : ∃ x, x = l1[j] := ⟨_, rfl⟩
      obtain ⟨y, hy⟩ : ∃ y, y = l2[j] := ⟨_, rfl⟩
      rw [← hx, ← hy, ← HI.out.1] at hld
      have hlb1 := range_lt hr1 (by simp; omega)
      have hlb2 := range_lt hr2 (by simp; omega)
      have p1 := (range_below hr1 HI.out.2 hlb1 j (b8 x) (by simp [hj1, hx]))
      have p2 := (range_below hr2 HI.out.2 hlb2 j (b8 y) (by simp [hj2, hy]))
      have q1 := Fut.cell p1
      have q2 := Fut.cell p2
      have HX := hid (And.intro hld (And.intro p1 p2))
      clear hx hy hr1 hr2 hlb1 hlb2 hld p1 p2
      go_upto_region 4 with fail
      refine wp_region_fut (by kernel_rfl) (by kernel_rfl) ?_
      repeat go_big_quiet_step (fail)
      refine wpQuiet_nil ?_
      rintro _ ⟨s, rfl⟩
      have r1 := Fut.cell (q1 s)
      have r2 := Fut.cell (q2 s)
      clear q1 q2
      by_cases hxy : x = y
      · subst hxy
        go_wp2_with fail
        go_roundg (gk - 1)
        case measure => omega
        case rel => exact ⟨j + 1, by omega, by omega, by go_num, by rw [HX.out.1]; simp, gro HI.out.2 s.below⟩
      · have hf : (x == y) = false := by simpa using hxy
        have hxi : ¬ n8 x = n8 y := fun e => hxy (n8_inj e)
        rw [show (n8 x != n8 y) = true from by simpa using hxi]
        go_upto_region 5 with fail
        refine wp_region_fut (by kernel_rfl) (by kernel_rfl) ?_
        repeat go_big_quiet_step (fail)
        refine wpQuiet_nil ?_
        rintro _ ⟨s2, rfl⟩
        have hb1 := n8_lt x; have hb2 := n8_nonneg x; have hb3 := n8_lt y; have hb4 := n8_nonneg y
        have hz : wrap64 (wrap64 (n8 x) - wrap64 (n8 y)) = n8 x - n8 y := wrap_diff x y
        have HZ := hid hz
        clear hb1 hb2 hb3 hb4 hz
        go_wp2_with fail
        go_ret
        exact ⟨by rw [HX.out.1, if_neg hxy]; show Ending.returned (.int .i64 (wrap64 (wrap64 (n8 x) - wrap64 (n8 y)))) = _; rw [HZ.out], gro (gro HI.out.2 s.below) s2.below⟩
    · have hend := Lx.less_end (a := l1) (b := l2) (j := j) (by rw [HA.out.1]; omega) (by rw [HA.out.2.1]; omega) (by rw [HA.out.1, HA.out.2.1]; omega)
      rw [← HI.out.1, HA.out.1, HA.out.2.1] at hend
      have HE := hid hend
      clear hend
      by_cases hlt1 : j < n1
      · have hlt2 : ¬ j < n2 := fun h => hlt ⟨hlt1, h⟩
        clear hlt
        go_wp2_with fail
        go_ret
        exact ⟨by rw [HE.out]; rfl, HI.out.2⟩
      · clear hlt
        go_wp2_with fail
        go_ret
        exact ⟨by rw [HE.out]; rfl, HI.out.2⟩
end Go.Proofs.YtpnakfeafekneaaGreatDoor

/- The reference's map: items, their order, digits. -/
namespace Go.Proofs.YtpnakfeafekneaaGreatDoor
open Go.RowKit
/-- The cells of an item. -/
def ItAt (w : World) (n : Nat) (x : List Value) (p : Pr) : Prop := ∃ y, x = (Dg.key n p.key).map b8 ++ y ∧ PairAt w y p
structure ItsAt (w : World) (n : Nat) (L : List (List Value)) (m : List Pr) : Prop where
  len : L.length = m.length
  at_ : ∀ (i : Nat) (x : List Value) (p : Pr), L[i]? = some x → m[i]? = some p → ItAt w n x p
theorem key_len (n : Nat) (h2 : n ≤ 32) (k : List UInt8) : (Dg.key n k).length = 32 := Dg.sum_length n _ h2
theorem ItAt.grown {w w' : World} {n : Nat} {x : List Value} {p : Pr} (h : ItAt w n x p) (hb : Below w.heap.size w w') : ItAt w' n x p := by
  obtain ⟨y, e, h⟩ := h
  exact ⟨y, e, h.grown hb⟩
theorem ItAt.stay {w w' : World} (h : Stay PureT w w') {n : Nat} {x : List Value} {p : Pr} (hp : ItAt w n x p) : ItAt w' n x p := by
  obtain ⟨y, e, hp⟩ := hp
  exact ⟨y, e, hp.stay h⟩
theorem ItsAt.grown {w w' : World} {n : Nat} {L : List (List Value)} {m : List Pr} (h : ItsAt w n L m) (hb : Below w.heap.size w w') : ItsAt w' n L m := ⟨h.len, fun i x p h1 h2 => (h.at_ i x p h1 h2).grown hb⟩
theorem ItsAt.stay {w w' : World} (h : Stay PureT w w') {n : Nat} {L : List (List Value)} {m : List Pr} (hp : ItsAt w n L m) : ItsAt w' n L m := ⟨hp.len, fun i x p h1 h2 => (hp.at_ i x p h1 h2).stay h⟩
theorem ItAt.len {w : World} {n : Nat} {x : List Value} {p : Pr} (h2 : n ≤ 32) (h : ItAt w n x p) : x.length = 34 := by
  obtain ⟨y, rfl, A1, c1, A2, c2, rfl, -⟩ := h
  simp [key_len n h2]
theorem ItAt.oc {w : World} {n : Nat} {x : List Value} {p : Pr} (h : ItAt w n x p) : ∀ v ∈ x, v.oneCell' = true := by
  obtain ⟨y, rfl, A1, c1, A2, c2, rfl, -⟩ := h
  intro v hv
  rcases List.mem_append.1 hv with h | h
  · exact one_b8 _ v h
  · simp only [List.mem_cons, List.not_mem_nil, or_false] at h
    rcases h with rfl | rfl <;> rfl
theorem ItsAt.all34 {w : World} {n : Nat} {L : List (List Value)} {m : List Pr} (h2 : n ≤ 32) (h : ItsAt w n L m) : ∀ x ∈ L, x.length = 34 := by
  intro x hx
  obtain ⟨i, hi, rfl⟩ := List.getElem_of_mem hx
  have hps : i < m.length := by have := h.len; omega
  exact (h.at_ i L[i] m[i] (by simp [hi]) (by simp [hps])).len h2
theorem ItsAt.one {w : World} {n : Nat} {x : List Value} {p : Pr} (h : ItAt w n x p) : ItsAt w n [x] [p] := by
  refine ⟨rfl, fun i y q h1 h3 => ?_⟩
  have hi : i = 0 := by have := (List.getElem?_eq_some_iff.1 h1).1; simp at this; omega
  subst hi
  simp at h1 h3; subst h1; subst h3; exact h
theorem ItsAt.append {w : World} {n : Nat} {L1 L2 : List (List Value)} {m1 m2 : List Pr} (h1 : ItsAt w n L1 m1) (h2 : ItsAt w n L2 m2) : ItsAt w n (L1 ++ L2) (m1 ++ m2) := by
  refine ⟨by simp [h1.len, h2.len], fun i x p hx hp => ?_⟩
  have hl := h1.len
  by_cases hi : i < L1.length
  · rw [List.getElem?_append_left hi] at hx
    rw [List.getElem?_append_left (by omega)] at hp
    exact h1.at_ i x p hx hp
  · rw [List.getElem?_append_right (by omega)] at hx
    rw [List.getElem?_append_right (by omega)] at hp
    exact h2.at_ _ x p hx (by rw [hl]; exact hp)
theorem ItsAt.nil (w : World) (n : Nat) : ItsAt w n [] [] := ⟨rfl, fun i x p h => by simp at h⟩
theorem it_fill (parts : List (Nat × Value)) : Tryz.prog.built 225 parts = Instr.fill ((#[(0, 32), (32, 2)] : Array (Nat × Nat))[·]?) (List.replicate 32 (b8 0) ++ [Value.slice none 0 0, Value.slice none 0 0]).toArray parts := by kernel_rfl
theorem it_built (d : List UInt8) (hd : d.length = 32) (k v : Value) : Tryz.prog.built 225 [(0, dg d), (1, .agg #[k, v])] = some (d.map b8 ++ [k, v]).toArray := by
  have hD : (d.map b8).length = 32 := by simp [hd]
  rw [it_fill, fill_step _ _ 0 _ _ 0 32 rfl (d.map b8) rfl hD (by simp), splice_head _ _ _ (by rw [hD]; simp),
    fill_step _ _ 1 _ _ 32 2 rfl [k, v] rfl rfl (by simp [hd]), splice_tail _ _ _ _ (by simp [hd]),
    show splice [Value.slice none 0 0, Value.slice none 0 0] (32 - (d.map b8).length) [k, v] = [k, v] from by rw [hD]; rfl]
  rfl
theorem it_build_run (d : List UInt8) (hd : d.length = 32) (k v : Value) (w : World) : (Instr.build 225 #[(0, dg d), (1, .agg #[k, v])]).run Tryz.prog w = .ok (.agg (d.map b8 ++ [k, v]).toArray) w :=
  run_build (P := Tryz.prog) w _ #[(0, dg d), (1, .agg #[k, v])] _ (it_built d hd k v)
theorem pr_build_run (A1 : Option Addr) (n1 c1 : Nat) (A2 : Option Addr) (n2 c2 : Nat) (w : World) : (Instr.build 166 #[(0, .slice A1 n1 c1), (1, .slice A2 n2 c2)]).run Tryz.prog w = .ok (.agg #[.slice A1 n1 c1, .slice A2 n2 c2]) w :=
  run_build (P := Tryz.prog) w _ #[(0, .slice A1 n1 c1), (1, .slice A2 n2 c2)] _ (by kernel_rfl)
theorem twinN_any (A : Option Addr) (n c : Nat) (l : List UInt8) (w : World) (hn : l.length = n) (h : Rd w A (l.map b8)) (hl : n < 1099511627776) :
    Calls Tryz.prog 15 #[.slice A n c] w fun e w' => NewSl 5 w n (l.map b8) e w' := by
  subst hn; exact twin1_any A c l w h (by omega)
attribute [-go_sem] Instr.build Instr.buildSlice in
set_option maxHeartbeats 1000000 in
set_option maxRecDepth 100000 in
theorem item_any (n : Nat) (h2 : n ≤ 32) (A1 : Option Addr) (n1 c1 : Nat) (key : List UInt8) (A2 : Option Addr) (n2 c2 : Nat) (val : List UInt8) (w : World) (hn1 : key.length = n1) (hn2 : val.length = n2) (h1 : Rd w A1 (key.map b8)) (h3 : Rd w A2 (val.map b8)) (hl1 : n1 < 1048576) (hl2 : n2 < 1048576) :
    Calls Tryz.prog 155 #[.int .i64 n, .slice A1 n1 c1, .slice A2 n2 c2] w fun e w' => ∃ x, e = .returned (.agg x.toArray) ∧ Below w.heap.size w w' ∧ ItAt w' n x ⟨key, val⟩ := by
  have hz := Blk.new w 225 (List.replicate 32 (b8 0) ++ [Value.slice none 0 0, .slice none 0 0])
  have HA := hid (And.intro hn1 (And.intro hn2 (And.intro h1 (And.intro h3 (And.intro hz (below_box w (.cells (List.replicate 32 (b8 0) ++ [Value.slice none 0 0, .slice none 0 0]).toArray 225)))))))
  clear hn1 hn2 h1 h3 hz
  obtain ⟨D, hD⟩ : ∃ D, D = Dg.key n key := ⟨_, rfl⟩
  have hD32 : D.length = 32 := by rw [hD]; exact key_len n h2 key
  have HD := hid hD
  clear hD
  go_enter Tryz.func155, Tryz.ntmps155
  go_upto_region 1 with fail
  refine wp_world (fun w' => Blk w' w.heap.size 225 (List.replicate 32 (b8 0) ++ [Value.slice none 0 0, .slice none 0 0]) ∧ Below w.heap.size w w') HA.out.2.2.2.2 ?_
  rintro w0 ⟨hz, hbl⟩
  have HZ := hid (And.intro hz hbl)
  clear hz hbl
  have hpr := pr_build_run
  have hit := it_build_run D hD32
  go_wp2_with (first
    | (go_at_call 15
       with_reducible refine (twinN_any A2 n2 c2 val w2 HA.out.2.1 (HA.out.2.2.2.1.grown H2.out.1) (by omega)).mono ?_
       rintro e w3 ⟨A6, c6, rfl, hb3, hr6, hc6, -, ht6⟩
       have hb33 := gro H2.out.1 hb3
       have hx : PairAt w3 [.slice A5 n1 c5, .slice A6 n2 c6] ⟨key, val⟩ := ⟨A5, c5, A6, c6, by rw [HA.out.1, HA.out.2.1], H2.out.2.1.grown hb3, hr6, by rw [HA.out.1]; exact H2.out.2.2.1, by rw [HA.out.2.1]; exact hc6, TyB.zero (H2.out.2.2.2.1.grown hb3), TyB.zero ht6⟩
       have hzz := H2.out.2.2.2.2.grown hb3
       have hth := hzz.there 0 34 (by simp)
       have hxl : (D.map b8 ++ [Value.slice A5 n1 c5, .slice A6 n2 c6]).length = 34 := (by simp [hD32])
       have hxo : ∀ v ∈ D.map b8 ++ [Value.slice A5 n1 c5, .slice A6 n2 c6], v.oneCell' = true := (fun v hv => by
         rcases List.mem_append.1 hv with h | h
         · exact one_b8 _ v h
         · simp only [List.mem_cons, List.not_mem_nil, or_false] at h
           rcases h with rfl | rfl <;> rfl)
       have H3 := hid (And.intro hb33 (And.intro hx (And.intro hzz (And.intro hxl hxo))))
       clear hb3 hr6 hc6 ht6 hb33 hx hzz hxl hxo)
    | (go_at_call 15
       with_reducible refine (twinN_any A1 n1 c1 key w1 HA.out.1 (HA.out.2.2.1.grown H1.out.1) (by omega)).mono ?_
       rintro e w2 ⟨A5, c5, rfl, hb2, hr5, hc5, -, ht5⟩
       have H2 := hid (And.intro (gro H1.out.1 hb2) (And.intro hr5 (And.intro hc5 (And.intro ht5 (H1.out.2.grown hb2)))))
       clear hb2 hr5 hc5 ht5)
    | (go_at_call 197
       refine (rkey_any n A1 n1 c1 key _ h2 HA.out.1 (HA.out.2.2.1.grown HZ.out.2) (by omega)).mono ?_
       rintro e w1 ⟨rfl, hb1⟩
       rw [← HD.out]
       have H1 := hid (And.intro (gro HZ.out.2 hb1) (HZ.out.1.grown hb1))
       clear hb1)
    | ((with_reducible refine st_mid 225 (.tmp 6) (.tmp 15) w.heap.size 0 (D.map b8 ++ [Value.slice A5 n1 c5, .slice A6 n2 c6]) 34 H3.out.2.2.2.1 hth (by kernel_rfl) H3.out.2.2.2.2 ?_ ?_ ?_ ?_ ?_); rfl; rfl; rfl; rfl))
  exact rt_cell w.heap.size 0 _ 34 _ H3.out.2.2.2.1 (World.rangeAt_setCells_same _ _ _ _ (by rw [H3.out.2.2.2.1]; exact hth)) Tryz.underlying225 rfl (by kernel_rfl) rfl rfl rfl ⟨_, rfl, below_setCells _ (Nat.le_refl _) _ _ _ H3.out.1, _, by rw [HD.out], H3.out.2.1.stay (stay_sets H3.out.2.2.1 (by decide) 0 _)⟩
end Go.Proofs.YtpnakfeafekneaaGreatDoor

/- The reference's map: order, Digit. -/
namespace Go.Proofs.YtpnakfeafekneaaGreatDoor
open Go.RowKit
def Hm.ord (n : Nat) (p q : Pr) : Int := if Lx.less (Dg.key n p.key) (Dg.key n q.key) ≠ 0 then Lx.less (Dg.key n p.key) (Dg.key n q.key) else Lx.less p.key q.key
theorem Hm.ord_cmp (n : Nat) (p q : Pr) : (Hm.ord n p q < 0 ↔ Hm.cmp n p q < 0) ∧ (Hm.ord n p q = 0 ↔ Hm.cmp n p q = 0) := by
  obtain ⟨h1, h2⟩ := Lx.less_cmp (Dg.key n p.key) (Dg.key n q.key)
  unfold Hm.ord Hm.cmp
  by_cases h : Lx.less (Dg.key n p.key) (Dg.key n q.key) = 0
  · rw [if_neg (by simp [h]), if_neg (by simp [h2.1 h])]; exact Lx.less_cmp _ _
  · rw [if_pos h, if_pos (fun e => h (h2.2 e))]; exact ⟨h1, h2⟩
theorem run_sliceAt_all {T e : TypeId} {n : Nat} {P : Program} (hT : P.underlying T = some (.array n e)) (hs : (P.info? e).map (·.size) = some 1) (b o : Nat) (hn : 0 < n) (w : World) :
    (Instr.sliceAt T (.pointer (some ⟨b, o, none⟩)) none none none).run P w = .ok (.slice (some ⟨b, o, none⟩) n n) w := by
  simp [Instr.sliceAt, Instr.sureAddr, run_underlying hT, Instr.sliceBounds, Instr.sliceBound, asIntOf, sizeOf_run hs, Addr.add, hn, Nat.pos_iff_ne_zero.1 hn]
theorem it_cells {w w0 : World} {n b : Nat} {x : List Value} {p : Pr} (h2 : n ≤ 32) (h : ItAt w0 n x p) (hb : Blk w b 225 x) : ∃ A1 c1 A2 c2, w.rangeAt b 0 ((Dg.key n p.key).map b8) ∧ w.cell? ⟨b, 32, none⟩ = some (.slice A1 p.key.length c1) ∧ w.cell? ⟨b, 33, none⟩ = some (.slice A2 p.val.length c2) ∧ Rd w0 A1 (p.key.map b8) ∧ Rd w0 A2 (p.val.map b8) := by
  obtain ⟨y, rfl, A1, c1, A2, c2, rfl, h1, h2', -⟩ := h
  have hl : ((Dg.key n p.key).map b8).length = 32 := by rw [List.length_map]; exact key_len n h2 _
  refine ⟨A1, c1, A2, c2, (range_halves hb.whole).1, ?_, ?_, h1, h2'⟩
  · rw [hb.cell, List.getElem?_append_right (by omega), hl]; rfl
  · rw [hb.cell, List.getElem?_append_right (by omega), hl]; rfl
set_option maxHeartbeats 1000000 in
set_option maxRecDepth 100000 in
theorem order_any (n : Nat) (h2 : n ≤ 32) (x y : List Value) (p q : Pr) (w : World) (hx : ItAt w n x p) (hy : ItAt w n y q) (hp : p.key.length < 1048576) (hq : q.key.length < 1048576) :
    Calls Tryz.prog 156 #[.agg x.toArray, .agg y.toArray] w fun e w' => e = .returned (.int .i64 (Hm.ord n p q)) ∧ Below w.heap.size w w' := by
  have hb1 := (Blk.new w 225 x).alloc (.cells y.toArray 225)
  have hb2 := Blk.new (w.alloc (.cells x.toArray 225)) 225 y
  rw [show (w.alloc (.cells x.toArray 225)).heap.size = w.heap.size + 1 by simp] at hb2
  have HA := hid (And.intro hx (And.intro hy (And.intro hb1 (And.intro hb2 (gro (below_box w (.cells x.toArray 225)) (below_box _ (.cells y.toArray 225)))))))
  clear hx hy hb1 hb2
  go_enter Tryz.func156, Tryz.ntmps156
  go_upto_region 1 with fail
  refine wp_world (fun w' => Blk w' w.heap.size 225 x ∧ Blk w' (w.heap.size + 1) 225 y ∧ Below w.heap.size w w') HA.out.2.2 ?_
  rintro w1 ⟨hb1, hb2, hbl⟩
  obtain ⟨A1, c1, A2, c2, k1, k2, -, r1, -⟩ := it_cells h2 HA.out.1 hb1
  obtain ⟨B1, d1, B2, d2, m1, m2, -, s1, -⟩ := it_cells h2 HA.out.2.1 hb2
  obtain ⟨dp, hdp⟩ : ∃ d, d = Dg.key n p.key := ⟨_, rfl⟩
  obtain ⟨dq, hdq⟩ : ∃ d, d = Dg.key n q.key := ⟨_, rfl⟩
  have hdl1 : dp.length = 32 := by rw [hdp]; exact key_len n h2 _
  have hdl2 : dq.length = 32 := by rw [hdq]; exact key_len n h2 _
  rw [← hdp] at k1
  rw [← hdq] at m1
  have a1 := run_sliceAt_all (P := Tryz.prog) Tryz.underlying40 (by kernel_rfl) w.heap.size 0 (by decide)
  have a2 := run_sliceAt_all (P := Tryz.prog) Tryz.underlying40 (by kernel_rfl) (w.heap.size + 1) 0 (by decide)
  have hc1 : ∀ s : Fut w1, Calls Tryz.prog 198 #[.slice (some ⟨w.heap.size, 0, none⟩) 32 32, .slice (some ⟨w.heap.size + 1, 0, none⟩) 32 32] s.v fun e w'' => e = .returned (.int .i64 (Lx.less dp dq)) ∧ ∃ s' : Fut w1, w'' = s'.v := fun s =>
    Calls.fut_of (less_any _ 32 32 dp _ 32 32 dq s.v hdl1 hdl2 (Rd.of _ (range_grown k1 s.below)) (Rd.of _ (range_grown m1 s.below)) (by decide) (by decide))
  obtain ⟨Z, hZ⟩ : ∃ Z, Z = Lx.less dp dq := ⟨_, rfl⟩
  have hzb := Lx.less_bound dp dq
  rw [← hZ] at hc1 hzb
  obtain ⟨np, hnp⟩ : ∃ np, p.key.length = np := ⟨_, rfl⟩
  obtain ⟨nq, hnq⟩ : ∃ nq, q.key.length = nq := ⟨_, rfl⟩
  rw [hnp] at k2 hp
  rw [hnq] at m2 hq
  have hord : Hm.ord n p q = if Z ≠ 0 then Z else Lx.less p.key q.key := by unfold Hm.ord; rw [← hdp, ← hdq, ← hZ]
  have HC := hid (And.intro hc1 (And.intro r1 (And.intro s1 (And.intro hnp (And.intro hnq (And.intro hord (And.intro hbl (And.intro k2 m2))))))))
  clear hc1 r1 s1 hnp hnq hord hbl hb1 hb2 k1 m1 hdp hdq hZ hdl1 hdl2 HA hzb k2 m2
  refine wp_region_fut (by kernel_rfl) (by kernel_rfl) ?_
  repeat go_big_quiet_step (with_reducible exact HC.out.1 _)
  refine wpQuiet_nil ?_
  rintro _ ⟨s, rfl⟩
  have k2 := Fut.cell HC.out.2.2.2.2.2.2.2.1 s
  have m2 := Fut.cell HC.out.2.2.2.2.2.2.2.2 s
  by_cases hz0 : Z = 0
  · subst hz0
    go_wp2_with (go_at_call 198
                 refine (less_any A1 np c1 p.key B1 nq d1 q.key _ HC.out.2.2.2.1 HC.out.2.2.2.2.1 (HC.out.2.1.grown (gro HC.out.2.2.2.2.2.2.1 s.below)) (HC.out.2.2.1.grown (gro HC.out.2.2.2.2.2.2.1 s.below)) (by omega) (by omega)).mono ?_
                 rintro e w5 ⟨rfl, hb5⟩
                 have H5 := hid hb5
                 clear hb5)
    go_ret
    exact ⟨by rw [HC.out.2.2.2.2.2.1]; simp, gro (gro HC.out.2.2.2.2.2.2.1 s.below) H5.out⟩
  · go_wp2_with fail
    go_ret
    exact ⟨by rw [HC.out.2.2.2.2.2.1, if_pos hz0]; rfl, gro HC.out.2.2.2.2.2.2.1 s.below⟩
theorem wrap_byte (x : Int) (h1 : 0 ≤ x) (h2 : x < 256) : wrap64 x = x := wrap_small x (by omega) (by omega)
set_option maxRecDepth 100000 in
theorem rdigit_any (d : List UInt8) (i : Nat) (hd : d.length = 32) (hi : i < 64) (w : World) : Calls Tryz.prog 213 #[dg d, .int .i64 i] w fun e w' => e = .returned (.int .i64 (Dg.digit d i)) ∧ Below w.heap.size w w' := by
  have hb : Blk (w.alloc (.cells (d.map b8).toArray 40)) w.heap.size 40 (d.map b8) := Blk.new w _ _
  obtain ⟨x, hx⟩ : ∃ x, x = d.getD (i / 2) 0 := ⟨_, rfl⟩
  have c0 : (w.alloc (.cells (d.map b8).toArray 40)).cell? ⟨w.heap.size, i / 2, none⟩ = some (b8 x) := by
    rw [hb.cell, List.getElem?_map, List.getElem?_eq_getElem (show i / 2 < d.length by omega), hx, List.getD_eq_getElem?_getD, List.getElem?_eq_getElem (show i / 2 < d.length by omega)]; rfl
  have hdg : Dg.digit d i = x.toNat / 2 ^ (4 - i % 2 * 4) % 16 := by rw [hx]; rfl
  have hxl := x.toNat_lt
  have HB := hid (And.intro c0 (And.intro (below_box w (.cells (d.map b8).toArray 40)) (And.intro hdg hxl)))
  clear c0 hb hdg hx hxl
  obtain ⟨q, hq⟩ : ∃ q, q = i / 2 := ⟨_, rfl⟩
  have hqi : (i : Int) / 2 = (q : Int) := by omega
  have hq32 : q < 32 := by omega
  rw [← hq] at HB
  go_enter Tryz.func213, Tryz.ntmps213
  go_upto_region 1 with fail
  refine wp_world (fun w' => w'.cell? ⟨w.heap.size, q, none⟩ = some (b8 x) ∧ Below w.heap.size w w') ⟨HB.out.1, HB.out.2.1⟩ ?_
  rintro w1 ⟨c1, hb1⟩
  have HB1 := hid hb1
  have HD := hid (And.intro HB.out.2.2.1 HB.out.2.2.2)
  clear hb1 HB hq
  have hpar : i % 2 = 0 ∨ i % 2 = 1 := by omega
  rcases hpar with h0 | h0
  · have h1 : (i : Int) % 2 = 0 := by omega
    have hv : (n8 x).tdiv 16 % 256 = ((Dg.digit d i : Nat) : Int) := by
      have e := HD.out.1; have hl := HD.out.2
      rw [h0] at e
      rw [Int.tdiv_eq_ediv_of_nonneg (n8_nonneg x), e]
      unfold n8
      have : x.toNat / 2 ^ (4 - 0 * 4) % 16 = x.toNat / 16 := by show x.toNat / 16 % 16 = _; omega
      rw [this]; omega
    have HV := hid hv
    clear hv h0
    go_wp2_with fail
    go_ret
    exact ⟨by rw [← HV.out]; rfl, HB1.out⟩
  · have h1 : (i : Int) % 2 = 1 := by omega
    have hv : wrap64 (n8 x % 16) = ((Dg.digit d i : Nat) : Int) := by
      have e := HD.out.1; have hl := HD.out.2
      rw [h0] at e
      rw [wrap_byte _ (by unfold n8; omega) (by unfold n8; omega), e]
      unfold n8
      have : x.toNat / 2 ^ (4 - 1 * 4) % 16 = x.toNat % 16 := by show x.toNat / 1 % 16 = _; omega
      rw [this]; omega
    have HV := hid hv
    clear hv h0
    go_wp2_with fail
    go_ret
    exact ⟨by rw [← HV.out]; rfl, HB1.out⟩
end Go.Proofs.YtpnakfeafekneaaGreatDoor
