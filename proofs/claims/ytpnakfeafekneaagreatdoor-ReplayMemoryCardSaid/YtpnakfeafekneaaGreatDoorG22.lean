/- Part 22 of this proof: VI, VJ, VK, P4. -/
import Derived.Test.YtpnakfeafekneaaGreatDoorG18
import Derived.Test.YtpnakfeafekneaaGreatDoorG21
set_option linter.unusedSimpArgs false
set_option linter.unusedVariables false
namespace Go.Proofs.YtpnakfeafekneaaGreatDoor
open Go.RowKit
theorem turn_fut {w0 : World} (s : Fut w0) (x : UInt32) (n : Nat) (h1 : 1 ≤ n) (h2 : n < 32) : Calls Tryz.prog 176 #[b32 x, .int .i64 n] s.v fun e w' => e = .returned (b32 (Sha.rotr n x)) ∧ ∃ s' : Fut w0, w' = s'.v :=
  (turn_any x n h1 h2 s.v).mono fun e w' ⟨he, s', hs'⟩ => ⟨he, ⟨s'.v, s.below.trans (s'.below.mono s.below.size)⟩, hs'⟩
theorem big_any (g o c k : Nat) (l : List UInt8) (hl : l.length = 64) (hk : k < 16) (w : World) (hr : w.rangeAt g o (l.map b8)) :
    Calls Tryz.prog 206 #[.slice (some ⟨g, o, none⟩) 64 c, .int .i64 (4 * (k : Int))] w fun e w' => e = .returned (b32 (Sha.be (fun j => l.getD j 0) (4 * k))) ∧ ∃ s : Fut w, w' = s.v := by
  have q0 := Fut.cell (hr (4 * k) (b8 (l.getD (4 * k) 0)) (by simp [show 4 * k < l.length by omega]))
  have q1 := Fut.cell (hr (4 * k + 1) (b8 (l.getD (4 * k + 1) 0)) (by simp [show 4 * k + 1 < l.length by omega]))
  have q2 := Fut.cell (hr (4 * k + 2) (b8 (l.getD (4 * k + 2) 0)) (by simp [show 4 * k + 2 < l.length by omega]))
  have q3 := Fut.cell (hr (4 * k + 3) (b8 (l.getD (4 * k + 3) 0)) (by simp [show 4 * k + 3 < l.length by omega]))
  have hv := Rsha.be_add (l.getD (4 * k) 0) (l.getD (4 * k + 1) 0) (l.getD (4 * k + 2) 0) (l.getD (4 * k + 3) 0)
  have HV := hid hv
  clear hv hr
  go_enter Tryz.func206, Tryz.ntmps206
  go_upto_region 1 with fail
  refine wp_region_fut (by kernel_rfl) (by kernel_rfl) ?_
  repeat go_big_quiet_step (fail)
  refine wpQuiet_nil ?_
  rintro _ ⟨s, rfl⟩
  go_wp2_with fail
  go_ret
  exact ⟨by rw [show Sha.be (fun j => l.getD j 0) (4 * k) = _ from HV.out.symm]; rfl, s, rfl⟩
theorem rfirst_any (w : World) : Calls Tryz.prog 122 #[] w fun e w' => e = .returned (.agg (stl Sha.H0).toArray) ∧ Below w.heap.size w w' := by
  go_enter Tryz.func122, Tryz.ntmps122
  go_wp2_with fail
  exact post_cell rfl w.heap.size 0 rfl (stl Sha.H0) (Blk.new w _ (stl Sha.H0)).whole _ Tryz.underlying199 rfl (by kernel_rfl) rfl ⟨rfl, (Below.refl _ _).alloc (Nat.le_refl _) _⟩
set_option maxRecDepth 100000 in
theorem build_words (w : World) : (Instr.build 245 #[(0, .int .u32 1116352408), (1, .int .u32 1899447441), (2, .int .u32 3049323471), (3, .int .u32 3921009573), (4, .int .u32 961987163), (5, .int .u32 1508970993), (6, .int .u32 2453635748), (7, .int .u32 2870763221), (8, .int .u32 3624381080), (9, .int .u32 310598401), (10, .int .u32 607225278), (11, .int .u32 1426881987), (12, .int .u32 1925078388), (13, .int .u32 2162078206), (14, .int .u32 2614888103), (15, .int .u32 3248222580), (16, .int .u32 3835390401), (17, .int .u32 4022224774), (18, .int .u32 264347078), (19, .int .u32 604807628), (20, .int .u32 770255983), (21, .int .u32 1249150122), (22, .int .u32 1555081692), (23, .int .u32 1996064986), (24, .int .u32 2554220882), (25, .int .u32 2821834349), (26, .int .u32 2952996808), (27, .int .u32 3210313671), (28, .int .u32 3336571891), (29, .int .u32 3584528711), (30, .int .u32 113926993), (31, .int .u32 338241895), (32, .int .u32 666307205), (33, .int .u32 773529912), (34, .int .u32 1294757372), (35, .int .u32 1396182291), (36, .int .u32 1695183700), (37, .int .u32 1986661051), (38, .int .u32 2177026350), (39, .int .u32 2456956037), (40, .int .u32 2730485921), (41, .int .u32 2820302411), (42, .int .u32 3259730800), (43, .int .u32 3345764771), (44, .int .u32 3516065817), (45, .int .u32 3600352804), (46, .int .u32 4094571909), (47, .int .u32 275423344), (48, .int .u32 430227734), (49, .int .u32 506948616), (50, .int .u32 659060556), (51, .int .u32 883997877), (52, .int .u32 958139571), (53, .int .u32 1322822218), (54, .int .u32 1537002063), (55, .int .u32 1747873779), (56, .int .u32 1955562222), (57, .int .u32 2024104815), (58, .int .u32 2227730452), (59, .int .u32 2361852424), (60, .int .u32 2428436474), (61, .int .u32 2756734187), (62, .int .u32 3204031479), (63, .int .u32 3329325298)]).run Tryz.prog w = .ok (.agg (Sha.kList.map b32).toArray) w := by kernel_rfl
attribute [-go_sem] Instr.build Instr.buildSlice in
set_option maxRecDepth 100000 in
theorem rwords_any (w : World) : Calls Tryz.prog 175 #[] w fun e w' => e = .returned (.agg (Sha.kList.map b32).toArray) ∧ Below w.heap.size w w' := by
  have h1 : ∀ v ∈ Sha.kList.map b32, v.oneCell' = true := by
    intro v hv
    simp only [List.mem_map] at hv
    obtain ⟨i, -, rfl⟩ := hv
    rfl
  have hb := build_words
  obtain ⟨L, hL⟩ : ∃ L, L = Sha.kList.map b32 := ⟨_, rfl⟩
  have hll : L.length = 64 := by rw [hL]; rfl
  rw [← hL] at h1 hb ⊢
  clear hL
  go_enter Tryz.func175, Tryz.ntmps175
  go_wp2_with (
    ((with_reducible refine st_new 245 (.tmp 0) (.tmp 1) _ _ L 64 hll ?_ (by kernel_rfl) h1 ?_ ?_ ?_ ?_ ?_); rfl; rfl; rfl; rfl; rfl))
  exact rt_cell w.heap.size 0 _ 64 _ hll (Blk.new w 245 L).whole Tryz.underlying245 rfl (by kernel_rfl) rfl rfl rfl ⟨rfl, (Below.refl _ _).alloc (Nat.le_refl _) _⟩
end Go.Proofs.YtpnakfeafekneaaGreatDoor

namespace Go.Proofs.YtpnakfeafekneaaGreatDoor
open Go.RowKit
theorem turn_fut6 {w0 : World} (s : Fut w0) (x : UInt32) : Calls Tryz.prog 176 #[b32 x, .int .i64 6] s.v fun e w' => e = .returned (b32 (Sha.rotr 6 x)) ∧ ∃ s' : Fut w0, w' = s'.v := turn_fut s x 6 (by decide) (by decide)
theorem turn_fut7 {w0 : World} (s : Fut w0) (x : UInt32) : Calls Tryz.prog 176 #[b32 x, .int .i64 7] s.v fun e w' => e = .returned (b32 (Sha.rotr 7 x)) ∧ ∃ s' : Fut w0, w' = s'.v := turn_fut s x 7 (by decide) (by decide)
theorem turn_fut11 {w0 : World} (s : Fut w0) (x : UInt32) : Calls Tryz.prog 176 #[b32 x, .int .i64 11] s.v fun e w' => e = .returned (b32 (Sha.rotr 11 x)) ∧ ∃ s' : Fut w0, w' = s'.v := turn_fut s x 11 (by decide) (by decide)
theorem turn_fut17 {w0 : World} (s : Fut w0) (x : UInt32) : Calls Tryz.prog 176 #[b32 x, .int .i64 17] s.v fun e w' => e = .returned (b32 (Sha.rotr 17 x)) ∧ ∃ s' : Fut w0, w' = s'.v := turn_fut s x 17 (by decide) (by decide)
theorem turn_fut18 {w0 : World} (s : Fut w0) (x : UInt32) : Calls Tryz.prog 176 #[b32 x, .int .i64 18] s.v fun e w' => e = .returned (b32 (Sha.rotr 18 x)) ∧ ∃ s' : Fut w0, w' = s'.v := turn_fut s x 18 (by decide) (by decide)
theorem turn_fut19 {w0 : World} (s : Fut w0) (x : UInt32) : Calls Tryz.prog 176 #[b32 x, .int .i64 19] s.v fun e w' => e = .returned (b32 (Sha.rotr 19 x)) ∧ ∃ s' : Fut w0, w' = s'.v := turn_fut s x 19 (by decide) (by decide)
theorem turn_fut25 {w0 : World} (s : Fut w0) (x : UInt32) : Calls Tryz.prog 176 #[b32 x, .int .i64 25] s.v fun e w' => e = .returned (b32 (Sha.rotr 25 x)) ∧ ∃ s' : Fut w0, w' = s'.v := turn_fut s x 25 (by decide) (by decide)
def Rsha.ws (m : Nat → UInt8) : List Value := (List.range 64).map fun i => b32 (Sha.W m i)
theorem Rsha.ws_len (m : Nat → UInt8) : (Rsha.ws m).length = 64 := by simp [Rsha.ws]
theorem Rsha.ws_get (m : Nat → UInt8) (i : Nat) (h : i < 64) : (Rsha.ws m)[i]? = some (b32 (Sha.W m i)) := by simp [Rsha.ws, h]
theorem Rsha.ws_one (m : Nat → UInt8) : ∀ v ∈ Rsha.ws m, v.oneCell' = true := by
  intro v hv
  simp only [Rsha.ws, List.mem_map] at hv
  obtain ⟨i, -, rfl⟩ := hv
  rfl
theorem row_fut {wr : World} {b : Nat} {t : TypeId} {n : Nat} {f : Nat → Value} (h : wr.rowIs b t n f) (s : Fut wr) : s.v.rowIs b t n f := h.of_block (s.below.block _ h.lt)
theorem two_new (w : World) (A B : Obj) : ((w.alloc A).alloc B).heap[w.heap.size]? = some A ∧ ((w.alloc A).alloc B).heap[w.heap.size + 1]? = some B ∧ Below w.heap.size w ((w.alloc A).alloc B) := by
  have sz : ∀ (w : World) (o : Obj), (w.alloc o).heap.size = w.heap.size + 1 := fun w o => by simp
  refine ⟨?_, ?_, ?_⟩
  · rw [Below.heap_alloc _ _ _ (by simp)]; exact heap_alloc_new w A
  · rw [← sz w A]; exact heap_alloc_new _ _
  · exact ((Below.refl _ _).alloc (Nat.le_refl _) _).alloc (by simp) _
structure Sp (m : Nat → UInt8) (w : World) (k : Nat) (wr : World) : Prop where
  r0 : wr.rowIs w.heap.size 245 64 (fun _ => b32 0)
  r1 : wr.rowIs (w.heap.size + 1) 245 64 (fun i => b32 (if i < k then Sha.W m i else 0))
  bl : Below w.heap.size w wr
theorem Sp.start (m : Nat → UInt8) (w : World) : Sp m w 0 ((w.alloc (.cells (Array.replicate 64 (.int .u32 0)) 245)).alloc (.cells (Array.replicate 64 (.int .u32 0)) 245)) := by
  obtain ⟨F0, F1, F2⟩ := two_new w (.cells (Array.replicate 64 (.int .u32 0)) 245) (.cells (Array.replicate 64 (.int .u32 0)) 245)
  exact ⟨row_of _ _ _ _ 64 (fun i => b32 0) F0 rfl (by intro i hi; simp [Array.getElem?_replicate, hi, n32_zero]),
    row_of _ _ _ _ 64 (fun i => b32 (if i < 0 then Sha.W m i else 0)) F1 rfl (by intro i hi; simp [Array.getElem?_replicate, hi, n32_zero]), F2⟩
theorem Sp.fut {m : Nat → UInt8} {w wr : World} {k : Nat} (h : Sp m w k wr) (s : Fut wr) : Sp m w k s.v := ⟨row_fut h.r0 s, row_fut h.r1 s, h.bl.trans (s.below.mono h.bl.size)⟩
theorem Sp.next {m : Nat → UInt8} {w wr : World} {k : Nat} (hC : Sp m w k wr) {v : Int} (hv : v = n32 (Sha.W m k)) :
    Sp m w (k + 1) (wr.setCell ⟨w.heap.size + 1, k, none⟩ (.int .u32 v)) := by
  subst hv
  refine ⟨hC.r0.setOther (by simp <;> omega) _, ?_, hC.bl.setCell (by simp <;> omega) _⟩
  refine (hC.r1.set k (b32 (Sha.W m k))).congr fun i hi => ?_
  by_cases h : i = k
  · subst h; simp
  · rw [if_neg h]
    by_cases h' : i < k
    · rw [if_pos h', if_pos (by omega)]
    · rw [if_neg h', if_neg (by omega)]
set_option maxRecDepth 100000 in
set_option maxHeartbeats 1000000 in
theorem spread_any (g o c : Nat) (l : List UInt8) (hl : l.length = 64) (w : World) (hr : w.rangeAt g o (l.map b8)) :
    Calls Tryz.prog 174 #[.slice (some ⟨g, o, none⟩) 64 c] w fun e w' => e = .returned (.agg (Rsha.ws (fun j => l.getD j 0)).toArray) ∧ Below w.heap.size w w' := by
  obtain ⟨m, hm⟩ : ∃ m : Nat → UInt8, m = fun j => l.getD j 0 := ⟨_, rfl⟩
  have hgl := range_lt hr (by simp [hl])
  have hbig : ∀ (k : Nat), k < 16 → ∀ w', Below w.heap.size w w' → Calls Tryz.prog 206 #[.slice (some ⟨g, o, none⟩) 64 c, .int .i64 (4 * (k : Int))] w' fun e w'' => e = .returned (b32 (Sha.be m (4 * k))) ∧ ∃ s : Fut w', w'' = s.v := fun k hk w' hb => by
    rw [hm]; exact big_any g o c k l hl hk w' (range_below hr hb hgl)
  have HG := hid hbig
  clear hbig
  have HR := hid hr
  clear hr
  rw [← hm]
  clear hm
  go_enter Tryz.func174, Tryz.ntmps174
  go_wp2_with fail
  go_loopg [4] 64 (fun g i wr => ∃ k : Nat, k + g = 64 ∧ i = .int .i64 k ∧ Sp m w k wr)
  case atStart => exact ⟨0, by omega, rfl, Sp.start m w⟩
  case round =>
    obtain ⟨k, hk, rfl, hC⟩ := hrel
    have HC := hid hC
    clear hC
    by_cases hlt : k < 64
    · by_cases h16 : k < 16
      · have c4 : ∀ s : Fut wr, s.v.cell? ⟨w.heap.size + 1, k, none⟩ = some (b32 (if k < k then Sha.W m k else 0)) := fun s => (HC.out.fut s).r1.cell hlt
        have c5 : ∀ s : Fut wr, s.v.frozen? ⟨w.heap.size + 1, k, none⟩ = false := fun s => (HC.out.fut s).r1.frozen _
        go_wp2_with (go_at_call 206
                     refine (HG.out k h16 wr HC.out.bl).mono ?_
                     rintro e w' ⟨rfl, s, rfl⟩)
        go_roundg (gk - 1)
        case measure => omega
        case rel => exact ⟨k + 1, by omega, by go_num, (HC.out.fut s).next (by rw [Sha.W_low m k h16])⟩
      · have e15 := HC.out.r1.cell (i := k - 15) (by omega)
        have e2 := HC.out.r1.cell (i := k - 2) (by omega)
        have e16 := HC.out.r1.cell (i := k - 16) (by omega)
        have e7 := HC.out.r1.cell (i := k - 7) (by omega)
        rw [if_pos (by omega)] at e15 e2 e16 e7
        have q15 := Fut.cell e15
        have q2 := Fut.cell e2
        have E16 := hid e16
        have E7 := hid e7
        clear e15 e2 e16 e7
        go_upto_region 7 with fail
        refine wp_region_fut (by kernel_rfl) (by kernel_rfl) ?_
        repeat go_big_quiet_step (fail)
        refine wpQuiet_nil ?_
        rintro _ ⟨s, rfl⟩
        have HC2 := hid (HC.out.fut s)
        have q16 := Fut.cell (Fut.cell E16.out s)
        have q7 := Fut.cell (Fut.cell E7.out s)
        clear q15 q2
        clear HC E16 E7
        go_upto_region 8 with fail
        refine wp_region_fut_tail 28 (by kernel_rfl) (by kernel_rfl) ?_
        dsimp only [List.take_succ_cons, List.take_zero, List.drop_succ_cons, List.drop_zero]
        repeat go_big_quiet_step (first | with_reducible exact turn_fut7 _ _ | with_reducible exact turn_fut18 _ _ | with_reducible exact turn_fut17 _ _ | with_reducible exact turn_fut19 _ _)
        refine wpQuiet_nil ?_
        rintro _ ⟨s2, rfl⟩
        have HC3 := hid (HC2.out.fut s2)
        clear HC2 q16 q7
        have c4 : s2.v.cell? ⟨w.heap.size + 1, k, none⟩ = some (b32 (if k < k then Sha.W m k else 0)) := HC3.out.r1.cell hlt
        have c5 : s2.v.frozen? ⟨w.heap.size + 1, k, none⟩ = false := HC3.out.r1.frozen _
        go_wp2_with fail
        go_roundg (gk - 1)
        case measure => omega
        case rel => exact ⟨k + 1, by omega, by go_num, HC3.out.next (by rw [Rsha.W_ref m k h16]; rfl)⟩
    · obtain rfl : k = 64 := by omega
      have hlw : wr.rangeAt (w.heap.size + 1) 0 (Rsha.ws m) := World.rangeAt_of_row HC.out.r1 0 _ (by intro j hj; rw [Rsha.ws_len] at hj; rw [Nat.zero_add, if_pos hj]; exact Rsha.ws_get m j hj) (by rw [Rsha.ws_len]; exact Nat.le_refl _)
      have ht : wr.there w.heap.size 0 64 := World.there_of_row HC.out.r0 0 64 (by omega)
      have HO := hid (Rsha.ws_len m)
      go_wp2_with (first
        | ((with_reducible refine ld_mid 245 (.tmp 3) (w.heap.size + 1) 0 _ 64 _ HO.out hlw Tryz.underlying245 rfl (by kernel_rfl) ?_ ?_ ?_ ?_); rfl; rfl; rfl)
        | ((with_reducible refine st_mid 245 (.tmp 2) (.tmp 56) w.heap.size 0 _ 64 HO.out ht (by kernel_rfl) (Rsha.ws_one m) ?_ ?_ ?_ ?_ ?_); rfl; rfl; rfl; rfl))
      exact rt_cell w.heap.size 0 _ 64 _ HO.out (World.rangeAt_setCells_same _ _ _ _ (by rw [HO.out]; exact ht)) Tryz.underlying245 rfl (by kernel_rfl) rfl rfl rfl ⟨rfl, below_setCells _ (Nat.le_refl _) _ _ _ HC.out.bl⟩
end Go.Proofs.YtpnakfeafekneaaGreatDoor

namespace Go.Proofs.YtpnakfeafekneaaGreatDoor
open Go.RowKit
theorem Rsha.k_len : (Sha.kList.map b32).length = 64 := rfl
theorem Rsha.k_get (i : Nat) (h : i < 64) : (Sha.kList.map b32)[i]? = some (b32 (Sha.K i)) := by
  have hl : i < Sha.kList.length := h
  simp [Sha.K, hl]
theorem Rsha.k_one : ∀ v ∈ Sha.kList.map b32, v.oneCell' = true := by
  intro v hv
  simp only [List.mem_map] at hv
  obtain ⟨i, -, rfl⟩ := hv
  rfl
theorem stl_len (s : Sha.St) : (stl s).length = 8 := rfl
theorem stl_one' (s : Sha.St) : ∀ v ∈ stl s, v.oneCell' = true := by simp [stl, Value.oneCell']
structure Rc (m : Nat → UInt8) (s : Sha.St) (w : World) (n5 n6 n7 k : Nat) (wr : World) : Prop where
  r2 : wr.rowIs w.heap.size 199 8 (fun i => b32 (stf s i))
  r4 : wr.rowIs (w.heap.size + 1) 199 8 (fun _ => b32 0)
  r5 : wr.rowIs n5 245 64 (fun i => b32 (Sha.W m i))
  r6 : wr.rowIs n6 245 64 (fun i => b32 (Sha.K i))
  r7 : wr.rowIs n7 199 8 (fun p => b32 (Rsha.place (Sha.rnd m s k) k p))
  bl : Below w.heap.size w wr
  o5 : w.heap.size + 1 < n5
  o6 : n5 < n6
  o7 : n6 < n7
theorem Rc.fut {m : Nat → UInt8} {s : Sha.St} {w : World} {n5 n6 n7 k : Nat} {wr : World} (h : Rc m s w n5 n6 n7 k wr) (f : Fut wr) : Rc m s w n5 n6 n7 k f.v :=
  ⟨row_fut h.r2 f, row_fut h.r4 f, row_fut h.r5 f, row_fut h.r6 f, row_fut h.r7 f, h.bl.trans (f.below.mono h.bl.size), h.o5, h.o6, h.o7⟩
theorem Rc.next {m : Nat → UInt8} {s : Sha.St} {w : World} {n5 n6 n7 k : Nat} {wr : World} (h : Rc m s w n5 n6 n7 k wr) (hk : k < 64) {p q : Nat} (hp : p = (64 - k + 3) % 8) (hq : q = (64 - k + 7) % 8) {x y : Value}
    (hx : x = b32 ((Sha.rnd m s k).d + Sha.T1 (Sha.rnd m s k) k (Sha.W m k))) (hy : y = b32 (Sha.T1 (Sha.rnd m s k) k (Sha.W m k) + Sha.T2 (Sha.rnd m s k))) {w1 : World} (f1 : ∃ f : Fut (wr.setCell ⟨n7, p, none⟩ x), w1 = f.v) :
    Rc m s w n5 n6 n7 (k + 1) (w1.setCell ⟨n7, q, none⟩ y) := by
  obtain ⟨f, rfl⟩ := f1
  have o5 := h.o5
  have o6 := h.o6
  have o7 := h.o7
  have hb : Below w.heap.size w (wr.setCell ⟨n7, p, none⟩ x) := h.bl.setCell (by simp <;> omega) _
  refine ⟨(row_fut (h.r2.setOther (by simp <;> omega) _) f).setOther (by simp <;> omega) _, (row_fut (h.r4.setOther (by simp <;> omega) _) f).setOther (by simp <;> omega) _, (row_fut (h.r5.setOther (by simp <;> omega) _) f).setOther (by simp <;> omega) _, (row_fut (h.r6.setOther (by simp <;> omega) _) f).setOther (by simp <;> omega) _, ?_, (hb.trans (f.below.mono hb.size)).setCell (by simp <;> omega) _, o5, o6, o7⟩
  subst hx hy
  refine ((row_fut (h.r7.set p _) f).set q _).congr fun i hi => ?_
  rw [Sha.rnd, Rsha.place_step _ _ _ _ hk hi, ← hq, ← hp]
  by_cases h1 : i = q
  · rw [if_pos h1, if_pos h1]
  · rw [if_neg h1, if_neg h1]
    by_cases h2 : i = p
    · rw [if_pos h2, if_pos h2]
    · rw [if_neg h2, if_neg h2]
structure Rd4 (m : Nat → UInt8) (s : Sha.St) (w : World) (n7 k : Nat) (wr : World) : Prop where
  r2 : wr.rowIs w.heap.size 199 8 (fun i => if i < k then b32 (stf (Sha.compress m s) i) else b32 (stf s i))
  r4 : wr.rowIs (w.heap.size + 1) 199 8 (fun _ => b32 0)
  r7 : wr.rowIs n7 199 8 (fun i => b32 (Rsha.place (Sha.rnd m s 64) 64 i))
  bl : Below w.heap.size w wr
  o7 : w.heap.size + 1 < n7
theorem Rd4.start {m : Nat → UInt8} {s : Sha.St} {w : World} {n5 n6 n7 : Nat} {wr : World} (h : Rc m s w n5 n6 n7 64 wr) : Rd4 m s w n7 0 wr := ⟨h.r2, h.r4, h.r7, h.bl, by have := h.o5; have := h.o6; have := h.o7; omega⟩
theorem Rd4.fut {m : Nat → UInt8} {s : Sha.St} {w : World} {n7 k : Nat} {wr : World} (h : Rd4 m s w n7 k wr) (f : Fut wr) : Rd4 m s w n7 k f.v :=
  ⟨row_fut h.r2 f, row_fut h.r4 f, row_fut h.r7 f, h.bl.trans (f.below.mono h.bl.size), h.o7⟩
theorem Rd4.next {m : Nat → UInt8} {s : Sha.St} {w : World} {n7 k : Nat} {wr : World} (hC : Rd4 m s w n7 k wr) {v : UInt32} (hv : stf (Sha.compress m s) k = v) :
    Rd4 m s w n7 (k + 1) (wr.setCell ⟨w.heap.size, k, none⟩ (b32 v)) := by
  subst hv
  have o7 := hC.o7
  refine ⟨?_, hC.r4.setOther (by simp <;> omega) _, hC.r7.setOther (by simp <;> omega) _, hC.bl.setCell (by simp <;> omega) _, o7⟩
  refine (hC.r2.set k (b32 (stf (Sha.compress m s) k))).congr fun i hi => ?_
  by_cases h : i = k
  · subst h; simp
  · rw [if_neg h]
    by_cases h' : i < k
    · rw [if_pos h', if_pos (by omega)]
    · rw [if_neg h', if_neg (by omega)]
theorem turn_w2 (x : UInt32) (w : World) : Calls Tryz.prog 176 #[b32 x, .int .i64 2] w fun e w' => e = .returned (b32 (Sha.rotr 2 x)) ∧ ∃ s : Fut w, w' = s.v := turn_any x 2 (by decide) (by decide) w
theorem turn_w13 (x : UInt32) (w : World) : Calls Tryz.prog 176 #[b32 x, .int .i64 13] w fun e w' => e = .returned (b32 (Sha.rotr 13 x)) ∧ ∃ s : Fut w, w' = s.v := turn_any x 13 (by decide) (by decide) w
theorem turn_w22 (x : UInt32) (w : World) : Calls Tryz.prog 176 #[b32 x, .int .i64 22] w fun e w' => e = .returned (b32 (Sha.rotr 22 x)) ∧ ∃ s : Fut w, w' = s.v := turn_any x 22 (by decide) (by decide) w
theorem fut_trans {a b c : World} (h : ∃ s : Fut a, b = s.v) (k : ∃ s : Fut b, c = s.v) : ∃ s : Fut a, c = s.v := by
  obtain ⟨s, rfl⟩ := h
  obtain ⟨t, rfl⟩ := k
  exact ⟨⟨t.v, gro s.below t.below⟩, rfl⟩
theorem Rc.reg {m : Nat → UInt8} {s : Sha.St} {w : World} {n5 n6 n7 k : Nat} {wr : World} (h : Rc m s w n5 n6 n7 k wr) (hk : k < 64) {q : Nat} (hq : q = 64 - k) {st : Sha.St} (hst : st = Sha.rnd m s k) (j : Nat) (hj : j < 8) : wr.cell? ⟨n7, (q + j) % 8, none⟩ = some (b32 (stf st j)) := by
  rw [h.r7.cell (by omega), hq, Rsha.place_at _ _ _ hk hj, hst]
theorem Rsha.t1 (st : Sha.St) (k : Nat) (x : UInt32) : st.k + (Sha.rotr 6 st.e ^^^ Sha.rotr 11 st.e ^^^ Sha.rotr 25 st.e) + (st.g ^^^ st.e &&& (st.f ^^^ st.g)) + Sha.K k + x = Sha.T1 st k x := by
  rw [Rsha.choice_eq]; rfl
theorem Rsha.t2 (st : Sha.St) (t : UInt32) : t + (Sha.rotr 2 st.a ^^^ Sha.rotr 13 st.a ^^^ Sha.rotr 22 st.a) + (st.a &&& st.b ||| st.c &&& (st.a ||| st.b)) = t + Sha.T2 st := by
  rw [Rsha.most_eq, UInt32.add_assoc]; rfl
abbrev rcW0 (s : Sha.St) (w : World) : World := (w.alloc (.cells (stl s).toArray 199)).alloc (.cells (Array.replicate 8 (.int .u32 0)) 199)
abbrev rcW1 (m : Nat → UInt8) (w1 : World) : World := w1.alloc (.cells (Rsha.ws m).toArray 245)
abbrev rcW2 (w2 : World) : World := w2.alloc (.cells (Sha.kList.map b32).toArray 245)
abbrev rcW3 (s : Sha.St) (w2 : World) : World := (rcW2 w2).alloc (.cells (stl s).toArray 199)
theorem Rc.first {m : Nat → UInt8} {s : Sha.St} {w w1 w2 : World} (hb1 : Below (rcW0 s w).heap.size (rcW0 s w) w1) (hb2 : Below (rcW1 m w1).heap.size (rcW1 m w1) w2) :
    Blk (rcW2 w2) w.heap.size 199 (stl s) ∧ Blk (rcW2 w2) (w.heap.size + 1) 199 (List.replicate 8 (.int .u32 0)) ∧ Blk (rcW2 w2) w1.heap.size 245 (Rsha.ws m) ∧ Blk (rcW2 w2) w2.heap.size 245 (Sha.kList.map b32) ∧ Below w.heap.size w (rcW2 w2) ∧ w.heap.size + 1 < w1.heap.size ∧ w1.heap.size < w2.heap.size := by
  have z0 : (rcW0 s w).heap.size = w.heap.size + 1 + 1 := by simp [rcW0]
  have z1 : (rcW1 m w1).heap.size = w1.heap.size + 1 := by simp [rcW1]
  have s1 := hb1.size
  have s2 := hb2.size
  have b0 : Below w.heap.size w (rcW0 s w) := ((Below.refl _ _).alloc (Nat.le_refl _) _).alloc (by simp) _
  have n1 : Blk (rcW0 s w) (w.heap.size + 1) 199 (List.replicate 8 (.int .u32 0)) := by
    have := Blk.new (w.alloc (.cells (stl s).toArray 199)) 199 (List.replicate 8 (.int .u32 0))
    rwa [show (w.alloc (.cells (stl s).toArray 199)).heap.size = w.heap.size + 1 from by simp] at this
  refine ⟨(((((Blk.new w _ (stl s)).alloc _).grown hb1).alloc _).grown hb2).alloc _, (((n1.grown hb1).alloc _).grown hb2).alloc _, ((Blk.new w1 _ (Rsha.ws m)).grown hb2).alloc _, Blk.new w2 _ _, ?_, by omega, by omega⟩
  exact (gro (gro b0 (gro hb1 (below_box _ _))) (gro hb2 (below_box _ _)))
theorem Rc.start {m : Nat → UInt8} {s : Sha.St} {w w1 w2 : World} (hb1 : Below (rcW0 s w).heap.size (rcW0 s w) w1) (hb2 : Below (rcW1 m w1).heap.size (rcW1 m w1) w2) :
    Rc m s w w1.heap.size w2.heap.size (rcW2 w2).heap.size 0 (rcW3 s w2) := by
  obtain ⟨f1, f2, f3, f4, f5, f6, f7⟩ := Rc.first hb1 hb2
  have f8 : Blk (rcW3 s w2) (rcW2 w2).heap.size 199 (stl s) := Blk.new (rcW2 w2) 199 (stl s)
  refine ⟨row_of_blk (f1.alloc _) rfl (fun i hi => stl_get s i hi), row_of_blk (f2.alloc _) rfl (fun i hi => by rw [List.getElem?_replicate, if_pos hi]; rfl), row_of_blk (f3.alloc _) (Rsha.ws_len m) (fun i hi => Rsha.ws_get m i hi), row_of_blk (f4.alloc _) Rsha.k_len (fun i hi => Rsha.k_get i hi), row_of_blk f8 rfl (fun i hi => by rw [stl_get s i hi, Rsha.place_zero _ _ hi]; rfl), gro f5 (below_box _ _), f6, f7, by simp [rcW2]⟩
set_option maxRecDepth 100000 in
set_option maxHeartbeats 1000000 in
theorem rcompress_any (g o c : Nat) (l : List UInt8) (hl : l.length = 64) (s : Sha.St) (w : World) (hr : w.rangeAt g o (l.map b8)) :
    Calls Tryz.prog 123 #[.agg (stl s).toArray, .slice (some ⟨g, o, none⟩) 64 c] w fun e w' => e = .returned (.agg (stl (Sha.compress (fun j => l.getD j 0) s)).toArray) ∧ Below w.heap.size w w' := by
  obtain ⟨m, hm⟩ : ∃ m : Nat → UInt8, m = fun j => l.getD j 0 := ⟨_, rfl⟩
  have hsp : ∀ w', Below w.heap.size w w' → Calls Tryz.prog 174 #[.slice (some ⟨g, o, none⟩) 64 c] w' fun e w'' => e = .returned (.agg (Rsha.ws m).toArray) ∧ Below w'.heap.size w' w'' := fun w' hb => by
    rw [hm]; exact spread_any g o c l hl w' (range_grown hr hb)
  have HS := hid hsp
  clear hr hsp
  rw [← hm]
  clear hm
  go_enter Tryz.func123, Tryz.ntmps123
  have hwl := Rsha.ws_len m
  have HK := hid Rsha.k_one
  have HO := hid (And.intro (Rsha.ws_one m) (stl_one' s))
  go_upto_region 3 with (first
    | (go_at_call 174
       refine (HS.out _ (((Below.refl _ _).alloc (Nat.le_refl _) _).alloc (by simp) _)).mono ?_
       rintro e w1 ⟨rfl, hb1⟩
       have H1 := hid (show Below (rcW0 s w).heap.size (rcW0 s w) w1 from hb1)
       clear hb1)
    | ((with_reducible refine st_new 245 (.tmp 5) (.tmp 21) _ _ (Rsha.ws m) 64 hwl ?_ (by kernel_rfl) HO.out.1 ?_ ?_ ?_ ?_ ?_); rfl; rfl; rfl; rfl; rfl)
    | (go_at_call 175
       refine (rwords_any _).mono ?_
       rintro e w2 ⟨rfl, hb2⟩
       have H2 := hid (show Below (rcW1 m w1).heap.size (rcW1 m w1) w2 from hb2)
       clear hb2)
    | ((with_reducible refine st_new 245 (.tmp 6) (.tmp 22) _ _ (Sha.kList.map b32) 64 Rsha.k_len ?_ (by kernel_rfl) HK.out ?_ ?_ ?_ ?_ ?_); rfl; rfl; rfl; rfl; rfl))
  obtain ⟨W, hW⟩ : ∃ W, W = rcW2 w2 := ⟨_, rfl⟩
  have hp := (Rc.first H1.out H2.out).1.whole
  have hR := hid (show Rc m s w w1.heap.size w2.heap.size W.heap.size 0 (W.alloc (.cells (stl s).toArray 199)) from by rw [hW]; exact Rc.start H1.out H2.out)
  refine wp_world (fun w' => w' = W) hW.symm ?_
  rintro w' rfl
  rw [← hW] at hp
  clear hW H1 H2
  go_wp2_with (first
    | ((with_reducible refine ld_mid 199 (.tmp 2) w.heap.size 0 _ 8 _ (stl_len s) hp Tryz.underlying199 rfl (by kernel_rfl) ?_ ?_ ?_ ?_); rfl; rfl; rfl)
    | ((with_reducible refine st_new 199 (.tmp 7) (.tmp 23) _ _ (stl s) 8 (stl_len s) ?_ (by kernel_rfl) HO.out.2 ?_ ?_ ?_ ?_ ?_); rfl; rfl; rfl; rfl; rfl))
  obtain ⟨n5, h5⟩ : ∃ n5, n5 = w1.heap.size := ⟨_, rfl⟩
  obtain ⟨n6, h6⟩ : ∃ n6, n6 = w2.heap.size := ⟨_, rfl⟩
  obtain ⟨n7, h7⟩ : ∃ n7, n7 = w'.heap.size := ⟨_, rfl⟩
  rw [← h5, ← h6, ← h7] at hR
  rw [← h5, ← h6, ← h7]
  clear h5 h6 h7 hp HS HK HO
  go_loopg [8] 64 (fun g i wr => ∃ k : Nat, k + g = 64 ∧ i = .int .i64 k ∧ Rc m s w n5 n6 n7 k wr)
  case atStart => exact ⟨0, by omega, rfl, hR.out⟩
  case round =>
    clear hR
    obtain ⟨k, hk, rfl, hC⟩ := hrel
    have HC := hid hC
    clear hC
    by_cases hlt : k < 64
    · obtain ⟨st, hst⟩ : ∃ st, st = Sha.rnd m s k := ⟨_, rfl⟩
      obtain ⟨q, hq⟩ : ∃ q, q = 64 - k := ⟨_, rfl⟩
      have hw : IntKind.i64.wrap (64 - (k : Int)) = (q : Int) := by rw [IntKind.wrap_i64]; omega
      have hq64 : q < 65 := by omega
      have HQ := hid (And.intro hq hst)
      clear hq hst
      have q0 := Fut.cell (show wr.cell? ⟨n7, q % 8, none⟩ = some (b32 st.a) from HC.out.reg hlt HQ.out.1 HQ.out.2 0 (by decide))
      have q1 := Fut.cell (show wr.cell? ⟨n7, (q + 1) % 8, none⟩ = some (b32 st.b) from HC.out.reg hlt HQ.out.1 HQ.out.2 1 (by decide))
      have q2 := Fut.cell (show wr.cell? ⟨n7, (q + 2) % 8, none⟩ = some (b32 st.c) from HC.out.reg hlt HQ.out.1 HQ.out.2 2 (by decide))
      go_upto_region 8 with fail
      refine wp_region_fut (by kernel_rfl) (by kernel_rfl) ?_
      repeat go_big_quiet_step (fail)
      refine wpQuiet_nil ?_
      rintro _ ⟨s1, rfl⟩
      have HC1 := hid (HC.out.fut s1)
      clear q0 q1 q2 HC
      have q4 := Fut.cell (show s1.v.cell? ⟨n7, (q + 4) % 8, none⟩ = some (b32 st.e) from HC1.out.reg hlt HQ.out.1 HQ.out.2 4 (by decide))
      have q5 := Fut.cell (show s1.v.cell? ⟨n7, (q + 5) % 8, none⟩ = some (b32 st.f) from HC1.out.reg hlt HQ.out.1 HQ.out.2 5 (by decide))
      have q6 := Fut.cell (show s1.v.cell? ⟨n7, (q + 6) % 8, none⟩ = some (b32 st.g) from HC1.out.reg hlt HQ.out.1 HQ.out.2 6 (by decide))
      go_upto_region 9 with fail
      refine wp_region_fut (by kernel_rfl) (by kernel_rfl) ?_
      repeat go_big_quiet_step (fail)
      refine wpQuiet_nil ?_
      rintro _ ⟨s2, rfl⟩
      have HC2 := hid (HC1.out.fut s2)
      clear q4 q5 q6 HC1
      have q7 := Fut.cell (show s2.v.cell? ⟨n7, (q + 7) % 8, none⟩ = some (b32 st.k) from HC2.out.reg hlt HQ.out.1 HQ.out.2 7 (by decide))
      have k1 := Fut.cell (HC2.out.r6.cell hlt)
      have k2 := Fut.cell (HC2.out.r5.cell hlt)
      go_upto_region 12 with fail
      refine wp_region_fut (by kernel_rfl) (by kernel_rfl) ?_
      repeat go_big_quiet_step (first | with_reducible exact turn_fut6 _ _ | with_reducible exact turn_fut11 _ _ | with_reducible exact turn_fut25 _ _)
      refine wpQuiet_nil ?_
      rintro _ ⟨s3, rfl⟩
      have HC3 := hid (HC2.out.fut s3)
      clear q7 k1 k2 HC2
      have c3 : s3.v.cell? ⟨n7, (q + 3) % 8, none⟩ = some (b32 st.d) := HC3.out.reg hlt HQ.out.1 HQ.out.2 3 (by decide)
      have f3 := HC3.out.r7.frozen ((q + 3) % 8)
      go_wp2_with (go_at_call 176; first
        | (with_reducible refine (turn_w22 _ _).mono ?_
           rintro e w22 ⟨rfl, f22⟩
           have H22 := hid (fut_trans H2.out (fut_trans H13.out f22))
           have c7 := (let ⟨f, hf⟩ := H22.out; hf ▸ (row_fut (HC3.out.r7.set ((q + 3) % 8) _) f).cell (i := (q + 7) % 8) (by omega))
           have f7 := (let ⟨f, hf⟩ := H22.out; hf ▸ (row_fut (HC3.out.r7.set ((q + 3) % 8) _) f).frozen ((q + 7) % 8))
           clear f22)
        | (with_reducible refine (turn_w13 _ _).mono ?_
           rintro e w13 ⟨rfl, f13⟩
           have H13 := hid f13
           clear f13)
        | (with_reducible refine (turn_w2 _ _).mono ?_
           rintro e w2 ⟨rfl, f2⟩
           have H2 := hid f2
           clear f2))
      go_roundg (gk - 1)
      case measure => omega
      case rel => 
        refine ⟨k + 1, by omega, by go_num, HC3.out.next hlt (by rw [HQ.out.1]) (by rw [HQ.out.1]) ?_ ?_ H22.out⟩
        · rw [← HQ.out.2, ← Rsha.t1]
        · rw [← HQ.out.2, ← Rsha.t1, ← Rsha.t2]
    · obtain rfl : k = 64 := by omega
      have HD := hid (Rd4.start HC.out)
      clear HC
      go_wp2_with fail
      go_loopg [19] 8 (fun g i wr => ∃ k : Nat, k + g = 8 ∧ i = .int .i64 k ∧ Rd4 m s w n7 k wr)
      case atStart => exact ⟨0, by omega, rfl, HD.out⟩
      case round =>
        clear HD
        obtain ⟨k, hk, rfl, hC⟩ := hrel
        have HC := hid hC
        clear hC
        by_cases hlt : k < 8
        · have a1 := Fut.cell (show wr.cell? ⟨w.heap.size, k, none⟩ = some (b32 (stf s k)) by rw [HC.out.r2.cell hlt, if_neg (by omega)])
          have a2 := Fut.cell (show wr.cell? ⟨n7, k, none⟩ = some (b32 (stf (Sha.rnd m s 64) k)) by rw [HC.out.r7.cell hlt, Rsha.place_last _ _ hlt])
          obtain ⟨z, hz⟩ : ∃ z, z = stf (Sha.rnd m s 64) k := ⟨_, rfl⟩
          rw [← hz] at a2
          have HZ := hid hz
          clear hz
          go_upto_region 18 with fail
          refine wp_region_fut_tail 7 (by kernel_rfl) (by kernel_rfl) ?_
          dsimp only [List.take_succ_cons, List.take_zero, List.drop_succ_cons, List.drop_zero]
          repeat go_big_quiet_step (fail)
          refine wpQuiet_nil ?_
          rintro _ ⟨s2, rfl⟩
          have HC3 := hid (HC.out.fut s2)
          have b1 := a1 s2
          have b2 := HC3.out.r2.frozen k
          clear a1 a2 HC
          go_wp2_with fail
          go_roundg (gk - 1)
          case measure => omega
          case rel => exact ⟨k + 1, by omega, by go_num, HC3.out.next (by rw [Sha.compress, stf_add, HZ.out])⟩
        · obtain rfl : k = 8 := by omega
          have hl8 : wr.rangeAt w.heap.size 0 (stl (Sha.compress m s)) := World.rangeAt_of_row HC.out.r2 0 _ (by intro j hj; rw [Nat.zero_add, if_pos (show j < 8 from hj)]; exact stl_get _ j hj) (by rw [Nat.zero_add]; exact Nat.le_refl 8)
          have ht : wr.there (w.heap.size + 1) 0 8 := World.there_of_row HC.out.r4 0 8 (by omega)
          obtain ⟨S, hS⟩ : ∃ S, S = Sha.compress m s := ⟨_, rfl⟩
          rw [← hS] at hl8
          have HS := hid (And.intro hS (stl_one' S))
          clear hS
          go_wp2_with (first
            | ((with_reducible refine ld_mid 199 (.tmp 2) w.heap.size 0 _ 8 _ (stl_len S) hl8 Tryz.underlying199 rfl (by kernel_rfl) ?_ ?_ ?_ ?_); rfl; rfl; rfl)
            | ((with_reducible refine st_mid 199 (.tmp 4) (.tmp 135) (w.heap.size + 1) 0 _ 8 (stl_len S) ht (by kernel_rfl) HS.out.2 ?_ ?_ ?_ ?_ ?_); rfl; rfl; rfl; rfl))
          exact rt_cell (w.heap.size + 1) 0 _ 8 _ (stl_len S) (World.rangeAt_setCells_same _ _ _ _ ht) Tryz.underlying199 rfl (by kernel_rfl) rfl rfl rfl ⟨by rw [HS.out.1], below_setCells _ (by omega) _ _ _ HC.out.bl⟩
end Go.Proofs.YtpnakfeafekneaaGreatDoor

namespace Go.Proofs.YtpnakfeafekneaaGreatDoor
open Go.RowKit
def Top [Inhabited LoT] (w : World) (n : Nat) (v : Value) (m : List Pr) : Prop := (m = [] ∧ v = .nilIface) ∨ HtAt (fun _ => True) w n (2 * n) 0 v m
structure MapAt [Inhabited LoT] (w : World) (n b : Nat) (m : List Pr) : Prop where
  node : ∃ top, Blk w b 159 [.int .i64 n, top] ∧ Top w n top m
  srt : Hm.Srt n m
  bnd : Bnd m
  lo : Lo ≤ b
theorem Top.grown [Inhabited LoT] {w w' : World} {n : Nat} {v : Value} {m : List Pr} (h : Top w n v m) (hb : Below w.heap.size w w') : Top w' n v m := h.imp id (HtAt.grown hb)
theorem MapAt.grown [Inhabited LoT] {w w' : World} {n b : Nat} {m : List Pr} (h : MapAt w n b m) (hb : Below w.heap.size w w') : MapAt w' n b m := by
  obtain ⟨⟨top, h1, h2⟩, h3, h4, h5⟩ := h
  exact ⟨⟨top, h1.grown hb, h2.grown hb⟩, h3, h4, h5⟩
theorem MapAt.w [Inhabited LoT] {w : World} {n b : Nat} {m : List Pr} (h : MapAt w n b m) : MapW w b n := by
  obtain ⟨⟨top, h1, h2⟩, h3, h4⟩ := h
  unfold MapW
  rw [h1.cell]; rfl
theorem hnew_ok [Inhabited LoT] (n : Nat) (h1 : 1 ≤ n) (h2 : n ≤ 32) (w : World) (hlo : Lo ≤ w.heap.size) :
    Calls Tryz.prog 66 #[.int .i64 n] w fun e w' => ∃ b, e = .returned (.tuple #[ptr b, .int .i64 0]) ∧ Below w.heap.size w w' ∧ MapAt w' n b [] := by
  have i1 : ¬ (n : Int) < 1 := by omega
  have i2 : ¬ (32 : Int) < (n : Int) := by omega
  go_enter Tryz.func66, Tryz.ntmps66
  go_wp2_with fail
  go_ret2
  exact ⟨_, rfl, below_box _ _, ⟨_, Blk.new w _ [.int .i64 n, .nilIface], .inl ⟨rfl, rfl⟩⟩, List.Pairwise.nil, ⟨by decide, fun p hp => by cases hp⟩, hlo⟩
set_option maxRecDepth 100000 in
theorem hcheck_ok [Inhabited LoT] (b n : Nat) (h1 : 1 ≤ n) (h2 : n ≤ 32) (key : List UInt8) (A : Option Addr) (c : Nat) (w : World) (hw : Words w) (hb : MapW w b n) (hk : Rd w A (key.map b8)) (hl : key.length ≤ 64) :
    Calls Tryz.prog 93 #[ptr b, .slice A key.length c] w fun e w' => e = .returned (.tuple #[dg (Dg.key n key), .int .i64 0]) ∧ Below w.heap.size w w' := by
  have hd := Dg.sum_length n (Dg.keyIn key) h2
  have HD := hid (show ((Dg.key n key).map b8).length = 32 by unfold Dg.key; simp [hd])
  have HA := hid (And.intro hw (And.intro hb hk))
  have hl2 : ¬ (64 : Int) < (key.length : Int) := by omega
  clear hw hb hk hd
  go_enter Tryz.func93, Tryz.ntmps93
  go_upto_region 1 with fail
  refine wp_world (Res w) (Res.new w) ?_
  rintro w1 hr
  have k0 : w1.cell? ⟨b, 0, none⟩ = some (.int .i64 n) := HA.out.2.1.grown hr.bl
  have HR := hid hr
  clear hr
  go_wp2_with (first
    | (go_at_call 88
       refine (key_any n h1 h2 key A c w1 (HA.out.2.2.grown HR.out.bl) (HA.out.1.below HR.out.bl) (by omega)).mono ?_
       rintro e w3 ⟨rfl, hb⟩
       have ht := HR.out.there hb; have HB := hid hb; clear hb)
    | ((with_reducible refine st_mid 40 (.tmp 4) (.tmp 19) w.heap.size 0 ((Dg.key n key).map b8) 32 HD.out ht (by kernel_rfl) (one_b8 _) ?_ ?_ ?_ ?_ ?_); rfl; rfl; rfl; rfl))
  exact res_end HD.out ht (HR.out.below HB.out) rfl rfl rfl rfl (fun _ h => ⟨rfl, h⟩)
theorem sum_meth [Inhabited LoT] {w : World} {v : Value} {d : List UInt8} (h : SumAt w v d) : (∃ nb, v = nbk nb ∧ ∀ w', Below w.heap.size w w' → Calls Tryz.prog 243 #[ptr nb] w' fun e w'' => e = .returned (dg d) ∧ Below w'.heap.size w' w'') ∨
    (∃ nb, v = nbr nb ∧ ∀ w', Below w.heap.size w w' → Calls Tryz.prog 245 #[ptr nb] w' fun e w'' => e = .returned (dg d) ∧ Below w'.heap.size w' w'') := by
  obtain ⟨hd, h⟩ := h
  rcases h with ⟨nb, of, s, e, hol, hblk, A9, k9, c9, rfl⟩ | ⟨nb, bm9, s, z9, e, hblk⟩
  · exact .inl ⟨nb, e, fun w' hb => bksum_any nb of _ d w' hol hd (hblk.grown hb)⟩
  · exact .inr ⟨nb, e, fun w' hb => brsum_any nb bm9 s d z9 w' hd (hblk.grown hb)⟩
set_option maxRecDepth 100000 in
theorem hroot_any [Inhabited LoT] (b n : Nat) (h1 : 1 ≤ n) (h2 : n ≤ 32) (m : List Pr) (w : World) (hw : Words w) (h : MapAt w n b m) :
    Calls Tryz.prog 107 #[ptr b] w fun e w' => e = .returned (dg (Hm.root n m)) ∧ Below w.heap.size w w' := by
  obtain ⟨⟨top, h3, h4⟩, -, -, -⟩ := h
  rcases h4 with ⟨rfl, rfl⟩ | h4
  · have hd := Dg.sum_length n [5] h2
    have HD := hid (show ((Dg.noMap n).map b8).length = 32 by unfold Dg.noMap; simp [hd])
    have HA := hid (And.intro hw h3)
    clear hw h3 hd
    go_enter Tryz.func107, Tryz.ntmps107
    go_upto_region 1 with fail
    refine wp_world (Res w) (Res.new w) ?_
    rintro w1 hr
    have k0 : w1.cell? ⟨b, 0, none⟩ = some (.int .i64 n) := by rw [(HA.out.2.grown hr.bl).cell]; rfl
    have k1 : w1.cell? ⟨b, 1, none⟩ = some .nilIface := by rw [(HA.out.2.grown hr.bl).cell]; rfl
    have HR := hid hr
    clear hr
    go_upto_region 5 with (first
      | (go_at_call 157
         refine (noMap_any n h1 h2 w1 (HA.out.1.below HR.out.bl)).mono ?_
         rintro e w3 ⟨rfl, hb⟩
         have HB := hid hb; clear hb)
      | ((with_reducible refine st_new 40 (.tmp 3) (.tmp 19) _ _ ((Dg.noMap n).map b8) 32 HD.out ?_ (by kernel_rfl) (one_b8 _) ?_ ?_ ?_ ?_ ?_); rfl; rfl; rfl; rfl; rfl))
    refine wp_world (fun w' => w'.rangeAt w3.heap.size 0 ((Dg.noMap n).map b8) ∧ w'.there w.heap.size 0 32 ∧ Below w.heap.size w w') ⟨(Blk.new w3 _ _).whole, HR.out.there (gro HB.out (below_box _ _)), HR.out.below (gro HB.out (below_box _ _))⟩ ?_
    rintro w4 ⟨hr, ht, hb4⟩
    have HE := hid hb4
    clear hb4
    go_wp2_with (first
      | ((with_reducible refine ld_mid 40 (.tmp 3) w3.heap.size 0 _ 32 _ HD.out hr Tryz.underlying40 rfl (by kernel_rfl) ?_ ?_ ?_ ?_); rfl; rfl; rfl)
      | ((with_reducible refine st_mid 40 (.tmp 2) (.tmp 21) w.heap.size 0 ((Dg.noMap n).map b8) 32 HD.out ht (by kernel_rfl) (one_b8 _) ?_ ?_ ?_ ?_ ?_); rfl; rfl; rfl; rfl))
    exact rt_cell w.heap.size 0 _ 32 _ HD.out (World.rangeAt_setCells_same _ _ _ _ (by rw [HD.out]; exact ht)) Tryz.underlying40 rfl (by kernel_rfl) rfl rfl rfl ⟨rfl, below_setCells _ (Nat.le_refl _) _ _ _ HE.out⟩
  · have hne := h4.ne
    have hrt : Hm.root n m = Hm.node n (2 * n) 0 m := by
      unfold Hm.root
      cases m with
      | nil => exact absurd rfl hne
      | cons => rfl
    rw [hrt]
    have hd := node_len n h2 (2 * n) 0 m
    have hsm := h4.sumAt h2
    generalize Hm.node n (2 * n) 0 m = d at hd hsm ⊢
    have HD := hid (show (d.map b8).length = 32 by simp [hd])
    have hme := sum_meth hsm
    have HA := hid (And.intro hw h3)
    clear hw h3 hsm h4 hrt hne
    rcases hme with ⟨nb, rfl, hme⟩ | ⟨nb, rfl, hme⟩
    · have HM := hid hme
      clear hme
      go_enter Tryz.func107, Tryz.ntmps107
      go_upto_region 1 with fail
      refine wp_world (Res w) (Res.new w) ?_
      rintro w1 hr
      have k1 : w1.cell? ⟨b, 1, none⟩ = some (nbk nb) := by rw [(HA.out.2.grown hr.bl).cell]; rfl
      have HR := hid hr
      clear hr
      go_wp2_with (first
        | (go_at_call 243
           refine (HM.out w1 HR.out.bl).mono ?_
           rintro e w3 ⟨rfl, hb⟩
           have ht := HR.out.there hb; have HB := hid hb; clear hb)
        | ((with_reducible refine st_mid 40 (.tmp 2) (.tmp 26) w.heap.size 0 (d.map b8) 32 HD.out ht (by kernel_rfl) (one_b8 _) ?_ ?_ ?_ ?_ ?_); rfl; rfl; rfl; rfl))
      exact rt_cell w.heap.size 0 _ 32 _ HD.out (World.rangeAt_setCells_same _ _ _ _ (by rw [HD.out]; exact ht)) Tryz.underlying40 rfl (by kernel_rfl) rfl rfl rfl ⟨rfl, below_setCells _ (Nat.le_refl _) _ _ _ (HR.out.below HB.out)⟩
    · have HM := hid hme
      clear hme
      go_enter Tryz.func107, Tryz.ntmps107
      go_upto_region 1 with fail
      refine wp_world (Res w) (Res.new w) ?_
      rintro w1 hr
      have k1 : w1.cell? ⟨b, 1, none⟩ = some (nbr nb) := by rw [(HA.out.2.grown hr.bl).cell]; rfl
      have HR := hid hr
      clear hr
      go_wp2_with (first
        | (go_at_call 245
           refine (HM.out w1 HR.out.bl).mono ?_
           rintro e w3 ⟨rfl, hb⟩
           have ht := HR.out.there hb; have HB := hid hb; clear hb)
        | ((with_reducible refine st_mid 40 (.tmp 2) (.tmp 26) w.heap.size 0 (d.map b8) 32 HD.out ht (by kernel_rfl) (one_b8 _) ?_ ?_ ?_ ?_ ?_); rfl; rfl; rfl; rfl))
      exact rt_cell w.heap.size 0 _ 32 _ HD.out (World.rangeAt_setCells_same _ _ _ _ (by rw [HD.out]; exact ht)) Tryz.underlying40 rfl (by kernel_rfl) rfl rfl rfl ⟨rfl, below_setCells _ (Nat.le_refl _) _ _ _ (HR.out.below HB.out)⟩
end Go.Proofs.YtpnakfeafekneaaGreatDoor
