/- Part 32 of this proof: VO, VP, VQ, VR, VS. -/
import Derived.Test.YtpnakfeafekneaaGreatDoorG31
set_option linter.unusedSimpArgs false
set_option linter.unusedVariables false
namespace Go.Proofs.YtpnakfeafekneaaGreatDoor
open Go.RowKit
theorem range8_take (f : Nat → UInt8) (j : Nat) (h : j < 8) : ((List.range 8).map f).take (j + 1) = ((List.range 8).map f).take j ++ [f j] := by
  have hl : j < ((List.range 8).map f).length := by simpa using h
  rw [List.take_succ_eq_append_getElem hl]; simp
set_option maxRecDepth 100000 in
set_option maxHeartbeats 1000000 in
theorem rpad_any (n : Nat) (w : World) (hn : n < 1152921504606846976) : Calls Tryz.prog 124 #[.int .u64 n] w (Nb w (Sha.padding n)) := by
  obtain ⟨Z, hZ⟩ : ∃ Z, Z = (119 - n % 64) % 64 := ⟨_, rfl⟩
  have hZ64 : Z < 64 := by omega
  have hq : (n : Int) % 64 + Z + 9 = 64 ∨ (n : Int) % 64 + Z + 9 = 128 := by omega
  have HZ := hid hZ
  clear hZ
  have ho := own_blk (Blk.new w 5 [b8 128]) (l := [128]) (k := 1) rfl (Nat.le_refl _) (by decide)
  have HB := hid (And.intro ho (below_box w (.cells #[b8 128] 5)))
  clear ho
  go_enter Tryz.func124, Tryz.ntmps124
  go_wp2_with fail
  go_loopg [3] Z (fun g s3 wr => ∃ (j : Nat) (A : Option Addr) (c : Nat), j + g = Z ∧ s3 = .slice A (j + 1) c ∧ wr.ownsRow w.heap.size 5 1 (.slice A (j + 1) c) (j + 1) ((128 :: List.replicate j 0).map b8) ∧ Below w.heap.size w wr)
  case atStart => exact ⟨0, _, _, by omega, rfl, HB.out.1, HB.out.2⟩
  case round =>
    clear HB
    obtain ⟨j, A, c, hj, rfl, ho, hb⟩ := hrel
    have HI := hid (And.intro ho hb)
    clear ho hb
    by_cases hlt : j < Z
    · have hown := own_grown HI.out.1 (below_box wr (.cells #[.int .u8 0] 5))
      have hbl := hid (gro HI.out.2 (below_box wr (.cells #[.int .u8 0] 5)))
      have hrd := hid (show Rd (wr.alloc (.cells #[.int .u8 0] 5)) (some ⟨wr.heap.size, 0, none⟩) ([0].map b8) from rd_box wr 0)
      have HO := hid hown
      clear hown
      have hc : ((n : Int) % 64 + ((j : Int) + 1) + 8) % 64 ≠ 0 := by omega
      go_wp2_with (
        ((with_reducible refine ap_bytes (.tmp 15) (.tmp 16) HO.out _ 1 1 (j + 1 + 1) rfl [0] rfl hrd.out (by omega) hbl.out hbl.out.size ?_ ?_ ?_ ?_ ?_); rfl; rfl; rfl; rfl
         intro A3 c3 w3 ho3 hb3
         have H3 := hid (And.intro ho3 hb3)
         clear ho3 hb3))
      go_roundg (gk - 1)
      case measure => omega
      case rel => exact ⟨j + 1, A3, c3, by omega, rfl, by rw [List.replicate_succ']; exact H3.out.1, H3.out.2⟩
    · obtain rfl : j = Z := by omega
      have hc : ((n : Int) % 64 + ((j : Int) + 1) + 8) % 64 = 0 := by omega
      go_wp2_with fail
      have hc2 := True.intro
      clear hc hc2 hlt hj
      go_loopg [4, 3] 8 (fun g i s3 wr => ∃ (k : Nat) (A : Option Addr) (c N : Nat), k + g = 8 ∧ N = j + 1 + k ∧ i = .int .i64 ((g : Int) - 1) ∧ s3 = .slice A N c ∧ wr.ownsRow w.heap.size 5 1 (.slice A N c) N (((128 :: List.replicate j 0) ++ ((List.range 8).map fun j => Sha.pbyte n (7 - j)).take k).map b8) ∧ Below w.heap.size w wr)
      case atStart => exact ⟨0, _, _, _, rfl, rfl, rfl, rfl, by simpa using HI.out.1, HI.out.2⟩
      case round =>
        clear HI
        obtain ⟨k, A, c, N, hk, hN, rfl, rfl, ho, hb⟩ := hrel
        have hN80 : N < 80 := by omega
        have HI := hid (And.intro ho (And.intro hb hN))
        clear ho hb hN
        by_cases hlt : 0 < gk
        · have hg : gk = 1 ∨ gk = 2 ∨ gk = 3 ∨ gk = 4 ∨ gk = 5 ∨ gk = 6 ∨ gk = 7 ∨ gk = 8 := by omega
          have HT := hid (range8_take (fun j => Sha.pbyte n (7 - j)) k (by omega))
          have hv : n8 (Sha.pbyte n (7 - k)) = 8 * (n : Int) / 2 ^ (8 * (gk - 1)) % 256 := by rw [show 7 - k = gk - 1 from by omega]; exact (pbyte_val n (gk - 1) hn).symm
          have hm8 : IntKind.u64.wrap (8 * (n : Int)) = 8 * (n : Int) := by rw [IntKind.wrap_u64]; omega
          obtain ⟨x, hx⟩ : ∃ x, x = Sha.pbyte n (7 - k) := ⟨_, rfl⟩
          rw [← hx] at hv
          have hown := own_grown HI.out.1 (below_box wr (.cells #[b8 x] 5))
          have hbl := hid (gro HI.out.2.1 (below_box wr (.cells #[b8 x] 5)))
          have HO := hid hown
          have HX := hid hx
          clear hown hx
          rcases hg with rfl | rfl | rfl | rfl | rfl | rfl | rfl | rfl
          all_goals
            have H9 := hid (show 8 * (n : Int) / 72057594037927936 = 8 * (n : Int) / 72057594037927936 % 256 by omega)
            have hv2 := hv.symm
            clear hv
            simp only [Nat.sub_self, Nat.mul_zero, Int.pow_zero, Int.ediv_one, Nat.add_one_sub_one, Nat.reduceSub, Nat.reduceMul, Int.reducePow] at hv2
            go_wp2_with (
              ((first | rw [hv2] | rw [H9.out, hv2] | skip); (with_reducible refine ap_bytes (.tmp 22) (.tmp 29) HO.out _ 1 1 (N + 1) rfl [x] rfl (rd_box wr _) (by omega) hbl.out hbl.out.size ?_ ?_ ?_ ?_ ?_); rfl; rfl; rfl; rfl
               intro A3 c3 w3 ho3 hb3
               have H3 := hid (And.intro ho3 hb3)
               clear ho3 hb3))
            go_roundg (7 - k)
            case measure => omega
            case rel =>
              refine ⟨k + 1, A3, c3, N + 1, by omega, by have := HI.out.2.2; omega, by congr 1; omega, rfl, ?_, H3.out.2⟩
              rw [HT.out, ← List.append_assoc, ← HX.out]
              exact H3.out.1
        · obtain rfl : gk = 0 := by omega
          obtain rfl : k = 8 := by omega
          have hf : ((128 :: List.replicate j 0) ++ ((List.range 8).map fun j => Sha.pbyte n (7 - j)).take 8) = Sha.padding n := by
            rw [List.take_of_length_le (by simp)]; unfold Sha.padding; rw [← HZ.out]; rfl
          have hl := Sha.padding_length n
          rw [← HZ.out] at hl
          have HF := hid (And.intro hf hl)
          clear hf hl
          go_wp2_with fail
          go_ret
          exact ⟨A, c, N, by rw [HF.out.2, HI.out.2.2]; omega, rfl, HI.out.2.1, by rw [← HF.out.1]; exact HI.out.1⟩
end Go.Proofs.YtpnakfeafekneaaGreatDoor

namespace Go.Proofs.YtpnakfeafekneaaGreatDoor
open Go.RowKit
theorem range_piece {w : World} {g o : Nat} {l : List UInt8} (h : w.rangeAt g o (l.map b8)) (a m : Nat) : w.rangeAt g (o + a) (((l.drop a).take m).map b8) := fun j v hj => by
  have hjm : j < m := by
    apply Classical.byContradiction; intro hn
    rw [List.getElem?_eq_none (by simp; omega)] at hj; cases hj
  have := h (a + j) v (by rw [← hj, List.getElem?_map, List.getElem?_map, List.getElem?_take, if_pos hjm, List.getElem?_drop])
  rw [Nat.add_assoc]; exact this
theorem Sha.piece (l : List UInt8) (a : Nat) (s : Sha.St) : Sha.compress (fun j => ((l.drop a).take 64).getD j 0) s = Sha.compress (Sha.blk l a) s := by
  refine Sha.compress_congr (fun j hj => ?_) s
  unfold Sha.blk
  rw [List.getD_eq_getElem?_getD, List.getD_eq_getElem?_getD, List.getElem?_take, if_pos hj, List.getElem?_drop]
structure Rs (w : World) (nh : Nat) (S : Sha.St) (wr : World) : Prop where
  r3 : Blk wr nh 199 (stl S)
  r2 : Blk wr w.heap.size 39 (List.replicate 32 (b8 0))
  bl : Below w.heap.size w wr
  o3 : w.heap.size < nh
theorem Rs.fut {w : World} {nh : Nat} {S : Sha.St} {wr : World} (h : Rs w nh S wr) {w' : World} (hb : Below wr.heap.size wr w') : Rs w nh S w' := ⟨h.r3.grown hb, h.r2.grown hb, gro h.bl hb, h.o3⟩
theorem Rs.next {w : World} {nh : Nat} {S : Sha.St} {wr : World} (h : Rs w nh S wr) (S' : Sha.St) : Rs w nh S' (wr.setCells nh 0 (stl S')) := by
  have ho := h.o3
  refine ⟨?_, ?_, below_setCells _ (by omega) _ _ _ h.bl, ho⟩
  · have := h.r3.setCells (stl S') 0 _ (by show 0 + 8 ≤ 8; omega)
    rwa [splice_whole (stl S) (stl S') rfl] at this
  · exact (heap_setCells_other nh w.heap.size (by omega) _ _ _).trans h.r2
theorem out_val (S : Sha.St) (i q r : Nat) (hi : i = 4 * q + r) (hr : r < 4) : n32 (Sha.word S q) / 2 ^ (24 - 8 * r) % 256 = n8 (Sha.outB S i) := by
  subst hi
  rw [u32_shr _ _ (by omega), ← IntKind.wrap_u8, u32_in_u8]
  unfold Sha.outB
  rw [show (4 * q + r) / 4 = q from by omega, show (4 * q + r) % 4 = r from by omega]
theorem outF_step {h : Sha.St} {i : Nat} {wr : World} {g : Nat} {v : Int} (hv : v = n8 (Sha.outB h i)) (hr : wr.rowIs g 39 32 (outF h i)) : (wr.setCell ⟨g, i, none⟩ (.int .u8 v)).rowIs g 39 32 (outF h (i + 1)) := by
  subst hv
  refine (hr.set i (b8 (Sha.outB h i))).congr fun j hj => ?_
  unfold outF
  by_cases h1 : j = i
  · subst h1; rw [if_pos rfl, if_pos (by omega)]
  · rw [if_neg h1]
    by_cases h2 : j < i
    · rw [if_pos h2, if_pos (by omega)]
    · rw [if_neg h2, if_neg (by omega)]
theorem stl_word (S : Sha.St) (q : Nat) (h : q < 8) : (stl S)[q]? = some (b32 (Sha.word S q)) := by
  match q, h with | 0, _ => rfl | 1, _ => rfl | 2, _ => rfl | 3, _ => rfl | 4, _ => rfl | 5, _ => rfl | 6, _ => rfl | 7, _ => rfl
set_option maxRecDepth 100000 in
set_option maxHeartbeats 1000000 in
theorem rsum_any (A : Option Addr) (n c : Nat) (l : List UInt8) (w : World) (hn : l.length = n) (h : Rd w A (l.map b8)) (hc : n ≤ c) (hl : n < 1099511627776) :
    Calls Tryz.prog 76 #[.slice A n c] w fun e w' => e = .returned (dg (Sha.sum l)) ∧ Below w.heap.size w w' := by
  have HA := hid (And.intro hn h)
  clear hn h
  obtain ⟨K, hK⟩ : ∃ K, K = n / 64 := ⟨_, rfl⟩
  obtain ⟨W, hW⟩ : ∃ W, W = 64 * K := ⟨_, rfl⟩
  have hWi : (n : Int) / 64 * 64 = (W : Int) := by omega
  have hWn : W ≤ n := by omega
  have HK := hid (And.intro hK hW)
  clear hK hW
  have hb0 := Blk.new w 39 (List.replicate 32 (b8 0))
  have HB0 := hid hb0
  clear hb0
  go_enter Tryz.func76, Tryz.ntmps76
  go_wp2_with (first
    | (go_at_call 122
       refine (rfirst_any _).mono ?_
       rintro e w1 ⟨rfl, hb1⟩
       have H1 := hid hb1
       clear hb1)
    | ((with_reducible refine st_new 199 (.tmp 3) (.tmp 10) _ _ (stl Sha.H0) 8 (stl_len _) ?_ (by kernel_rfl) (stl_one' _) ?_ ?_ ?_ ?_ ?_); rfl; rfl; rfl; rfl; rfl))
  have hs0 : Rs w w1.heap.size (Sha.hashN l 0) (w1.alloc (.cells (stl Sha.H0).toArray 199)) := by
    refine ⟨Blk.new w1 _ _, (HB0.out.grown H1.out).alloc _, gro (below_box w _) (gro H1.out (below_box w1 _)), ?_⟩
    have := H1.out.size
    rw [show ∀ o, (w.alloc o).heap.size = w.heap.size + 1 from fun o => by simp] at this
    omega
  obtain ⟨nh, hnh⟩ : ∃ nh, nh = w1.heap.size := ⟨_, rfl⟩
  rw [← hnh] at hs0
  rw [← hnh]
  have HS0 := hid hs0
  clear hs0 hnh H1 HB0
  go_loopg [5] K (fun gg i wr => ∃ k a : Nat, k + gg = K ∧ a = 64 * k ∧ i = .int .i64 a ∧ Rs w nh (Sha.hashN l k) wr)
  case atStart => exact ⟨0, 0, by omega, rfl, rfl, HS0.out⟩
  case round =>
    clear HS0
    obtain ⟨k, a, hk, ha, rfl, hR⟩ := hrel
    have HR := hid (And.intro hR ha)
    clear hR
    have hWK := HK.out.2
    have hnK := HK.out.1
    by_cases hlt : k < K
    · have haW : a < W := by omega
      have ha64 : a + 64 ≤ W := by omega
      clear ha hWK hnK
      obtain ⟨g, o, rfl, hr⟩ := HA.out.2 (by intro e; have h1 := HA.out.1; rw [← List.length_map (f := b8), e] at h1; simp at h1; omega)
      have hgl := range_lt hr (by have := HA.out.1; simp; omega)
      obtain ⟨S, hS⟩ : ∃ S, S = Sha.hashN l k := ⟨_, rfl⟩
      have hsl : ∀ w, (Instr.slice 34 (.slice (some ⟨g, o, none⟩) n c) (some (.int .i64 a)) (some (.int .i64 ((a : Int) + 64))) none).run Tryz.prog w = .ok (.slice (some ⟨g, o + a, none⟩) 64 (c - a)) w := fun w => by
        have := run_slice_mid (P := Tryz.prog) Tryz.underlying34 (e := 5) (size := 1) (by kernel_rfl) g o n c a (a + 64) (by omega) (by omega) (by omega) w
        rw [Nat.mul_one, show a + 64 - a = 64 from by omega] at this
        exact this
      have hcc : ∀ s : Fut wr, Calls Tryz.prog 123 #[.agg (stl S).toArray, .slice (some ⟨g, o + a, none⟩) 64 (c - a)] s.v fun e w'' => e = .returned (.agg (stl (Sha.compress (Sha.blk l a) S)).toArray) ∧ ∃ s' : Fut wr, w'' = s'.v := fun s => by
        rw [← Sha.piece l a S]
        exact Calls.fut_of (rcompress_any g (o + a) (c - a) ((l.drop a).take 64) (by have := HA.out.1; simp; omega) S s.v (range_piece (range_below hr (HR.out.1.fut s.below).bl hgl) a 64))
      have hw3 : wr.rangeAt nh 0 (stl S) := by rw [hS]; exact HR.out.1.r3.whole
      have HC := hid (And.intro hcc (And.intro (range_fut hw3) hS))
      clear hcc hw3 hr hS
      go_upto_region 6 with fail
      refine wp_region_fut_tail 7 (by kernel_rfl) (by kernel_rfl) ?_
      dsimp only [List.take_succ_cons, List.take_zero, List.drop_succ_cons, List.drop_zero]
      repeat (first
        | (go_big_quiet_want; (with_reducible refine quiet_ld 199 (.tmp 3) nh 0 _ 8 _ (stl_len S) HC.out.2.1 Tryz.underlying199 rfl (by kernel_rfl) ?_ ?_ ?_); rfl; rfl; simp only [Act.put, List.setIfInBounds_toArray, List.set_cons_zero, List.set_cons_succ]; go_big_quiet_on)
        | go_big_quiet_step (with_reducible exact HC.out.1 _))
      refine wpQuiet_nil ?_
      rintro _ ⟨s, rfl⟩
      have H5 := hid (HR.out.1.fut s.below)
      obtain ⟨S2, hS2⟩ : ∃ S2, S2 = Sha.compress (Sha.blk l a) S := ⟨_, rfl⟩
      rw [← hS2]
      have hth : s.v.there nh 0 8 := H5.out.r3.there 0 8 (by show 0 + 8 ≤ 8; omega)
      have HS2 := hid (And.intro hS2 (stl_one' S2))
      clear hS2
      (refine st_mid 199 (.tmp 3) (.tmp 26) nh 0 _ 8 (stl_len S2) hth (by kernel_rfl) HS2.out.2 ?_ ?_ ?_ ?_ ?_); rfl; rfl; rfl; rfl
      go_wp2_with fail
      go_roundg (gk - 1)
      case measure => omega
      case rel =>
        refine ⟨k + 1, a + 64, by omega, by have := HR.out.2; omega, by go_num, ?_⟩
        have := H5.out.next S2
        rw [HS2.out.1, HC.out.2.2, HR.out.2] at this
        rw [HS2.out.1, HC.out.2.2, HR.out.2]
        exact this
    · obtain rfl : k = K := by omega
      obtain rfl : a = W := by omega
      clear hlt hk ha hWK hnK
      obtain ⟨M, hM⟩ : ∃ M, M = 136 := ⟨_, rfl⟩
      have hmk : ∀ w, (Instr.makeSlice 34 (.int .i64 0) (.int .i64 136)).run Tryz.prog w = .ok (.slice (some ⟨w.heap.size, 0, none⟩) 0 136) (w.alloc (.cells (Array.replicate M (b8 0)) 5)) := fun w => by
        have := make_cap 136 (by omega) w
        rw [List.toArray_replicate] at this
        rw [hM]; exact this
      have ho : (wr.alloc (.cells (Array.replicate M (b8 0)) 5)).ownsRow wr.heap.size 5 1 (.slice (some ⟨wr.heap.size, 0, none⟩) 0 136) 0 [] := by
        have := own_cap wr 136 (by omega) wr.heap.size (Nat.le_refl _)
        rw [List.toArray_replicate] at this
        rw [hM]; exact this
      obtain ⟨r, hr⟩ : ∃ r, r = n - a := ⟨_, rfl⟩
      obtain ⟨c2, hc2⟩ : ∃ c2, c2 = c - a := ⟨_, rfl⟩
      obtain ⟨AT, hAT⟩ : ∃ AT, AT = if c = a then A else A.map (·.add a) := ⟨_, rfl⟩
      have hsl : ∀ w, (Instr.slice 34 (.slice A n c) (some (.int .i64 a)) none none).run Tryz.prog w = .ok (.slice AT r c2) w := fun w => by
        have := run_slice_any (P := Tryz.prog) Tryz.underlying34 (e := 5) (size := 1) (by kernel_rfl) A n c a hWn w
        rw [Nat.mul_one, ← hAT, ← hr, ← hc2] at this
        exact this
      have hbA : Below w.heap.size w wr := HR.out.1.bl
      have hrd : Rd wr AT ((l.drop a).map b8) := by
        rw [hAT, List.map_drop]
        exact (HA.out.2.grown hbA).drop a c (by have := HA.out.1; simp; omega)
      have hrl : (l.drop a).length = r := by have := HA.out.1; simp; omega
      have hpl := Sha.padding_length n
      have hrn : r = n % 64 := by have h1 := HK.out.1; have h2 := HK.out.2; omega
      have hr64 : r < 64 := by omega
      have hbm := below_box wr (.cells (Array.replicate M (b8 0)) 5)
      have HO := hid (And.intro ho (And.intro hrd (And.intro hrl (And.intro hpl (And.intro hrn hbm)))))
      clear hM ho hr hc2 hAT hbA hrd hrl hpl hrn hbm
      go_upto_region 10 with (first
        | ((with_reducible refine ap_bytes (l := []) (.tmp 28) (.tmp 31) HO.out.1 AT r c2 r (Nat.zero_add r).symm (l.drop a) HO.out.2.2.1 (HO.out.2.1.grown HO.out.2.2.2.2.2) (by omega) HO.out.2.2.2.2.2 HO.out.2.2.2.2.2.size ?_ ?_ ?_ ?_ ?_); rfl; rfl; rfl; rfl
           intro A3 c3 w3 ho3 hb3
           have H3 := hid (And.intro ho3 hb3)
           clear ho3 hb3)
        | (go_at_call 124
           refine (rpad_any n _ (by omega)).mono ?_
           rintro e w4 ⟨A4, c4, n4, hn4, rfl, hb4, ho4⟩
           have hn73 : n4 < 73 := (by have := HO.out.2.2.2.1; omega)
           have H4 := hid (And.intro hn4 (And.intro hb4 (And.intro (own_rd ho4).1 (And.intro (own_grown H3.out.1 hb4) (gro H3.out.2 hb4)))))
           clear hn4 hb4 ho4)
        | ((with_reducible refine ap_bytes (.tmp 33) (.tmp 37) H4.out.2.2.2.1 A4 n4 c4 (r + n4) rfl (Sha.padding n) H4.out.1 H4.out.2.2.1 (by omega) H4.out.2.2.2.2 H4.out.2.2.2.2.size ?_ ?_ ?_ ?_ ?_); rfl; rfl; rfl; rfl
           intro A5 c5 w5 ho5 hb5
           have H5 := hid (And.intro ho5 hb5)
           clear ho5 hb5))
      obtain ⟨R, hR⟩ : ∃ R, R = l.drop a ++ Sha.padding n := ⟨_, rfl⟩
      obtain ⟨T, hT⟩ : ∃ T, T = l ++ Sha.padding n := ⟨_, rfl⟩
      obtain ⟨N, hN⟩ : ∃ N, N = r + n4 := ⟨_, rfl⟩
      obtain ⟨K2, hK2⟩ : ∃ K2, K2 = N / 64 := ⟨_, rfl⟩
      have hN200 : N < 200 := by omega
      have hNK : N = 64 * K2 := by have h1 := HO.out.2.2.2.1; have h2 := H4.out.1; have h3 := HO.out.2.2.2.2.1; omega
      have hK20 : 0 < K2 := by have h1 := HO.out.2.2.2.1; have h2 := H4.out.1; have h3 := HO.out.2.2.2.2.1; omega
      have hK22 : K2 < 3 := by have h1 := HO.out.2.2.2.1; have h2 := H4.out.1; have h3 := HO.out.2.2.2.2.1; omega
      have hRl : R.length = N := by rw [hR, List.length_append, HO.out.2.2.1, H4.out.1, hN]
      have hRT : R = T.drop a := by rw [hR, hT, List.drop_append_of_le_length (by have := HA.out.1; omega)]
      have hTl : T.length / 64 = k + K2 := by rw [hT, List.length_append, HA.out.1, H4.out.1]; have h1 := HK.out.1; have h2 := HK.out.2; have h3 := HO.out.2.2.2.2.1; omega
      have hTk : Sha.hashN T k = Sha.hashN l k := by rw [hT]; exact Sha.hashN_append l _ k (by have h1 := HA.out.1; have h2 := HK.out.2; omega)
      have hown := H5.out.1
      rw [List.nil_append, ← hR, ← hN] at hown
      obtain ⟨hrd, hcN⟩ := own_rd hown
      obtain ⟨g5, o5, rfl, hr5⟩ := hrd (by intro e; rw [← List.length_map (f := b8), e] at hRl; simp at hRl; omega)
      have hg5 := (hown.lt g5 rfl).1
      have hRs : Rs w nh (Sha.hashN T (k + 0)) w5 := by rw [Nat.add_zero, hTk]; exact HR.out.1.fut H5.out.2
      have hnhw := HR.out.1.r3.lt
      have hne : g5 ≠ nh := by omega
      rw [← hN]
      have haK := HK.out.2
      have HF := hid (And.intro hRs (And.intro hr5 (And.intro hRl (And.intro hRT (And.intro hTl hT)))))
      clear hR hT hN hK2 hRl hRT hTl hTk hown hrd hg5 hRs hnhw hr5 hsl hmk H3 H4 H5 HO HR hn73
      have HN := hid (And.intro hNK haK)
      clear haK
      go_wp2_with fail
      go_loopg [7] K2 (fun gg i wr => ∃ k2 a2 : Nat, k2 + gg = K2 ∧ a2 = 64 * k2 ∧ i = .int .i64 a2 ∧ Rs w nh (Sha.hashN T (k + k2)) wr ∧ wr.rangeAt g5 o5 (R.map b8))
      case atStart => exact ⟨0, 0, by omega, rfl, rfl, HF.out.1, HF.out.2.1⟩
      case round =>
        obtain ⟨k2, a2, hk2, ha2, rfl, hR, hr⟩ := hrel
        have HR := hid (And.intro hR (And.intro hr ha2))
        clear hR hr
        by_cases hlt2 : k2 < K2
        · have haN : a2 < N := by omega
          have ha64 : a2 + 64 ≤ N := by omega
          clear ha2 hNK
          obtain ⟨S, hS⟩ : ∃ S, S = Sha.hashN T (k + k2) := ⟨_, rfl⟩
          have hsl : ∀ w, (Instr.slice 34 (.slice (some ⟨g5, o5, none⟩) N c5) (some (.int .i64 a2)) (some (.int .i64 ((a2 : Int) + 64))) none).run Tryz.prog w = .ok (.slice (some ⟨g5, o5 + a2, none⟩) 64 (c5 - a2)) w := fun w => by
            have := run_slice_mid (P := Tryz.prog) Tryz.underlying34 (e := 5) (size := 1) (by kernel_rfl) g5 o5 N c5 a2 (a2 + 64) (by omega) (by omega) (by omega) w
            rw [Nat.mul_one, show a2 + 64 - a2 = 64 from by omega] at this
            exact this
          have hcc : ∀ s : Fut wr, Calls Tryz.prog 123 #[.agg (stl S).toArray, .slice (some ⟨g5, o5 + a2, none⟩) 64 (c5 - a2)] s.v fun e w'' => e = .returned (.agg (stl (Sha.compress (Sha.blk R a2) S)).toArray) ∧ ∃ s' : Fut wr, w'' = s'.v := fun s => by
            rw [← Sha.piece R a2 S]
            exact Calls.fut_of (rcompress_any g5 (o5 + a2) (c5 - a2) ((R.drop a2).take 64) (by have := HF.out.2.2.1; simp; omega) S s.v (range_piece (range_grown HR.out.2.1 s.below) a2 64))
          have hw3 : wr.rangeAt nh 0 (stl S) := by rw [hS]; exact HR.out.1.r3.whole
          have HC := hid (And.intro hcc (And.intro (range_fut hw3) hS))
          clear hcc hw3 hS
          go_upto_region 13 with fail
          refine wp_region_fut_tail 7 (by kernel_rfl) (by kernel_rfl) ?_
          dsimp only [List.take_succ_cons, List.take_zero, List.drop_succ_cons, List.drop_zero]
          repeat (first
            | (go_big_quiet_want; (with_reducible refine quiet_ld 199 (.tmp 3) nh 0 _ 8 _ (stl_len S) HC.out.2.1 Tryz.underlying199 rfl (by kernel_rfl) ?_ ?_ ?_); rfl; rfl; simp only [Act.put, List.setIfInBounds_toArray, List.set_cons_zero, List.set_cons_succ]; go_big_quiet_on)
            | go_big_quiet_step (with_reducible exact HC.out.1 _))
          refine wpQuiet_nil ?_
          rintro _ ⟨s, rfl⟩
          have H5 := hid (And.intro (HR.out.1.fut s.below) (range_grown HR.out.2.1 s.below))
          obtain ⟨S2, hS2⟩ : ∃ S2, S2 = Sha.compress (Sha.blk R a2) S := ⟨_, rfl⟩
          rw [← hS2]
          have hth : s.v.there nh 0 8 := H5.out.1.r3.there 0 8 (by show 0 + 8 ≤ 8; omega)
          have HS2 := hid (And.intro hS2 (stl_one' S2))
          clear hS2
          (refine st_mid 199 (.tmp 3) (.tmp 51) nh 0 _ 8 (stl_len S2) hth (by kernel_rfl) HS2.out.2 ?_ ?_ ?_ ?_ ?_); rfl; rfl; rfl; rfl
          go_wp2_with fail
          go_roundg (gk - 1)
          case measure => omega
          case rel =>
            have e : Sha.hashN T (k + (k2 + 1)) = S2 := by
              rw [HS2.out.1, HC.out.2.2, show k + (k2 + 1) = (k + k2) + 1 from rfl, Sha.hashN]
              refine Sha.compress_congr (fun j hj => ?_) _
              unfold Sha.blk
              rw [HF.out.2.2.2.1, List.getD_eq_getElem?_getD, List.getD_eq_getElem?_getD, List.getElem?_drop, HR.out.2.2, HN.out.2, ← Nat.add_assoc, ← Nat.mul_add]
            refine ⟨k2 + 1, a2 + 64, by omega, by have := HR.out.2.2; omega, by go_num, ?_, ?_⟩
            · rw [e]; exact H5.out.1.next S2
            · exact ((Kept.refl (· = nh) _).setN 0 (stl S2)).range H5.out.2 hne
        · obtain rfl : k2 = K2 := by omega
          obtain rfl : a2 = N := by omega
          clear hlt2 hk2 ha2 hNK hK20 hK22
          have hHT : Sha.hashN T (k + k2) = Sha.H T := by unfold Sha.H; rw [HF.out.2.2.2.2.1]
          have hRs := HR.out.1
          rw [hHT] at hRs
          have hfin : Sha.sum l = Sha.out (Sha.H T) := by unfold Sha.sum; rw [HF.out.2.2.2.2.2, HA.out.1]
          obtain ⟨S, hS⟩ : ∃ S, S = Sha.H T := ⟨_, rfl⟩
          rw [← hS] at hRs hfin
          have hb8 := Blk.new wr 39 (List.replicate 32 (b8 0))
          have hrow : (wr.alloc (.cells (List.replicate 32 (b8 0)).toArray 39)).rowIs wr.heap.size 39 32 (outF S 0) := row_of_blk hb8 (by simp) (fun i hi => by rw [List.getElem?_replicate, if_pos hi]; unfold outF; rw [if_neg (by omega)])
          have hRs2 := hRs.fut (below_box wr (.cells (List.replicate 32 (b8 0)).toArray 39))
          have hnd := hRs.r3.lt
          have HX := hid (And.intro hRs2 (And.intro hrow (And.intro hfin hnd)))
          clear hHT hRs hfin hS hb8 hrow hRs2 hnd HR HF
          go_wp2_with fail
          obtain ⟨nd, hnd⟩ : ∃ nd, nd = wr.heap.size := ⟨_, rfl⟩
          rw [← hnd] at HX
          rw [← hnd]
          clear hnd
          go_loopg [9] 32 (fun gg i wr => ∃ i' : Nat, i' + gg = 32 ∧ i = .int .i64 i' ∧ Rs w nh S wr ∧ wr.rowIs nd 39 32 (outF S i'))
          case atStart => exact ⟨0, by omega, rfl, HX.out.1, HX.out.2.1⟩
          case round =>
            have HY := hid HX.out.2.2
            have hnd2 := HX.out.2.2.2
            clear HX
            obtain ⟨i, hi, rfl, hR, hrow⟩ := hrel
            have HR := hid (And.intro hR hrow)
            clear hR hrow
            by_cases hlt3 : i < 32
            · obtain ⟨q, hq⟩ : ∃ q, q = i / 4 := ⟨_, rfl⟩
              have hq4 : (i : Int) / 4 = (q : Int) := by omega
              have hq8 : q < 8 := by omega
              have c3 : wr.cell? ⟨nh, q, none⟩ = some (b32 (Sha.word S q)) := by rw [HR.out.1.r3.cell]; exact stl_word S q hq8
              have c8 := HR.out.2.cell (i := i) hlt3
              have f8 := HR.out.2.frozen i
              have hor : i % 4 = 0 ∨ i % 4 = 1 ∨ i % 4 = 2 ∨ i % 4 = 3 := by omega
              have hvv := out_val S i q (i % 4) (by omega) (by omega)
              rcases hor with h0 | h0 | h0 | h0
              all_goals
                rw [h0] at hvv
                have hr4 : (i : Int) % 4 = ((i % 4 : Nat) : Int) := by omega
                rw [h0] at hr4
                have HV := hid hvv
                clear h0 hq hvv
                go_wp2_with fail
                go_roundg (gk - 1)
                case measure => omega
                case rel =>
                  refine ⟨i + 1, by omega, by go_num, ?_, outF_step ?_ HR.out.2⟩
                  · exact ⟨HR.out.1.r3.far (by show nh ≠ nd; omega) _, HR.out.1.r2.far (by have := HR.out.1.o3; show w.heap.size ≠ nd; omega) _, HR.out.1.bl.setCell (by have := HR.out.1.o3; show w.heap.size ≤ nd; omega) _, HR.out.1.o3⟩
                  · rw [← HV.out]; first | rfl | (rw [← u32_in_u8, IntKind.wrap_u8]; show _ = n32 (Sha.word S q) / 1 % 256; rw [Int.ediv_one])
            · obtain rfl : i = 32 := by omega
              have hl' : wr.rangeAt nd 0 ((Sha.out S).map b8) := World.rangeAt_of_row HR.out.2 0 _ (by intro j hj; rw [Nat.zero_add, show (32 : Nat) = 4 * 8 from rfl]; have h := out_get S j (by simpa [Sha.out] using hj); rw [Nat.zero_add] at h; exact h) (by simp [Sha.out])
              have ht : wr.there w.heap.size 0 32 := HR.out.1.r2.there 0 32 (by simp)
              have hlo : ((Sha.out S).map b8).length = 32 := by simp [Sha.out]
              have HO := hid (And.intro hlo (one_b8 (Sha.out S)))
              clear hlo
              go_wp2_with (first
                | ((with_reducible refine ld_mid 39 (.tmp 8) nd 0 _ 32 _ HO.out.1 hl' Tryz.underlying39 rfl (by kernel_rfl) ?_ ?_ ?_ ?_); rfl; rfl; rfl)
                | ((with_reducible refine st_mid 39 (.tmp 2) (.tmp 68) w.heap.size 0 _ 32 HO.out.1 ht (by kernel_rfl) HO.out.2 ?_ ?_ ?_ ?_ ?_); rfl; rfl; rfl; rfl))
              exact rt_cell w.heap.size 0 _ 32 _ HO.out.1 (World.rangeAt_setCells_same _ _ _ _ (by rw [HO.out.1]; exact ht)) Tryz.underlying39 rfl (by kernel_rfl) rfl rfl rfl ⟨by rw [HY.out.1], below_setCells _ (Nat.le_refl _) _ _ _ HR.out.1.bl⟩
end Go.Proofs.YtpnakfeafekneaaGreatDoor

namespace Go.Proofs.YtpnakfeafekneaaGreatDoor
open Go.RowKit
def cutF (d : List UInt8) (n j i : Nat) : Value := b8 (if n ≤ i ∧ i < j then 0 else d.getD i 0)
theorem cutF_next {d : List UInt8} {n j g : Nat} {w : World} (h : w.rowIs g 39 32 (cutF d n j)) (hn : n ≤ j) : (w.setCell ⟨g, j, none⟩ (.int .u8 0)).rowIs g 39 32 (cutF d n (j + 1)) := by
  refine (h.set j (b8 0)).congr fun i hi => ?_
  unfold cutF
  by_cases h1 : i = j
  · subst h1; rw [if_pos rfl, if_pos (by omega)]
  · rw [if_neg h1]
    by_cases h2 : n ≤ i ∧ i < j
    · rw [if_pos h2, if_pos (by omega)]
    · rw [if_neg h2, if_neg (by omega)]
theorem cutF_end {d : List UInt8} {n : Nat} (hd : d.length = 32) (h2 : n ≤ 32) (i : Nat) (hi : i < 32) : ((Dg.cut n d).map b8)[i]? = some (cutF d n 32 i) := by
  unfold Dg.cut cutF
  rw [List.getElem?_map]
  by_cases h : n ≤ i
  · rw [List.getElem?_append_right (by simp; omega), List.getElem?_replicate, if_pos (by simp; omega), if_pos ⟨h, hi⟩]; rfl
  · rw [List.getElem?_append_left (by simp; omega), List.getElem?_take, if_pos (by omega), if_neg (by omega), List.getElem?_eq_getElem (by omega)]
    simp [hd, hi]
set_option maxRecDepth 100000 in
theorem rcut_any (n : Nat) (A : Option Addr) (m c : Nat) (l : List UInt8) (w : World) (h2 : n ≤ 32) (hm : l.length = m) (h : Rd w A (l.map b8)) (hc : m ≤ c) (hl : m < 1099511627776) :
    Calls Tryz.prog 44 #[.int .i64 n, .slice A m c] w fun e w' => e = .returned (dg (Dg.sum n l)) ∧ Below w.heap.size w w' := by
  have HH := hid (And.intro hm (And.intro h hl))
  clear hm h hl
  obtain ⟨d, hd⟩ : ∃ d, d = Sha.sum l := ⟨_, rfl⟩
  have hdl : d.length = 32 := by rw [hd]; exact Sha.sum_length l
  have hml : (d.map b8).length = 32 := by rw [List.length_map, hdl]
  have hb0 := Blk.new w 40 (List.replicate 32 (b8 0))
  have HD := hid (And.intro hd hb0)
  clear hd hb0
  go_enter Tryz.func44, Tryz.ntmps44
  go_wp2_with (first
    | (go_at_call 76
       refine (rsum_any A m c l _ HH.out.1 (HH.out.2.1.grown (below_box w _)) hc HH.out.2.2).mono ?_
       rintro e w1 ⟨rfl, hb1⟩
       rw [← HD.out.1]
       have H1 := hid hb1
       clear hb1)
    | ((with_reducible refine st_new 39 (.tmp 5) (.tmp 8) _ _ (d.map b8) 32 hml ?_ (by kernel_rfl) (one_b8 d) ?_ ?_ ?_ ?_ ?_); rfl; rfl; rfl; rfl; rfl))
  have hs1 : w.heap.size < w1.heap.size := by have := H1.out.size; simp at this; omega
  have hr0 : (w1.alloc (.cells (d.map b8).toArray 39)).rowIs w1.heap.size 39 32 (cutF d n n) := row_of_blk (Blk.new w1 _ (d.map b8)) hml (fun i hi => by unfold cutF; rw [if_neg (by omega)]; simp [hdl, hi])
  have hbr := (HD.out.2.grown H1.out).alloc (.cells (d.map b8).toArray 39)
  have hbl := gro (below_box w _) (gro H1.out (below_box w1 (.cells (d.map b8).toArray 39)))
  obtain ⟨nd, hnd⟩ : ∃ nd, nd = w1.heap.size := ⟨_, rfl⟩
  rw [← hnd] at hs1 hr0
  rw [← hnd]
  have H2 := hid (And.intro hr0 (And.intro hbr hbl))
  clear hnd hr0 hbr hbl
  go_loopg [6] (32 - n) (fun g i wr => ∃ j : Nat, j + g = 32 ∧ n ≤ j ∧ i = .int .i64 j ∧ wr.rowIs nd 39 32 (cutF d n j) ∧ Blk wr w.heap.size 40 (List.replicate 32 (b8 0)) ∧ Below w.heap.size w wr)
  case atStart => exact ⟨n, by omega, Nat.le_refl _, rfl, H2.out.1, H2.out.2.1, H2.out.2.2⟩
  case round =>
    clear H2
    obtain ⟨j, hj, hnj, rfl, hr, hb, hbl⟩ := hrel
    have HR := hid (And.intro hr (And.intro hb hbl))
    clear hr hb hbl
    by_cases hlt : j < 32
    · have c8 := HR.out.1.cell (i := j) hlt
      have f8 := HR.out.1.frozen j
      go_wp2_with fail
      go_roundg (gk - 1)
      case measure => omega
      case rel => exact ⟨j + 1, by omega, by omega, by go_num, cutF_next HR.out.1 hnj, HR.out.2.1.far (by show w.heap.size ≠ nd; omega) _, HR.out.2.2.setCell (by show w.heap.size ≤ nd; omega) _⟩
    · obtain rfl : j = 32 := by omega
      have hcl : ((Dg.cut n d).map b8).length = 32 := by rw [List.length_map]; exact Dg.cut_length n d h2 hdl
      have hl' : wr.rangeAt nd 0 ((Dg.cut n d).map b8) := World.rangeAt_of_row HR.out.1 0 _ (by intro j hj; rw [hcl] at hj; rw [Nat.zero_add]; exact cutF_end hdl h2 j hj) (by rw [hcl]; exact Nat.le_refl _)
      have ht := HR.out.2.1.there 0 32 (by simp)
      have HO := hid (And.intro hcl (one_b8 (Dg.cut n d)))
      clear hcl
      go_wp2_with (first
        | ((with_reducible refine ld_mid 39 (.tmp 5) nd 0 _ 32 _ HO.out.1 hl' Tryz.underlying39 rfl (by kernel_rfl) ?_ ?_ ?_ ?_); rfl; rfl; rfl)
        | ((with_reducible refine st_mid 40 (.tmp 4) (.tmp 16) w.heap.size 0 _ 32 HO.out.1 ht (by kernel_rfl) HO.out.2 ?_ ?_ ?_ ?_ ?_); rfl; rfl; rfl; rfl))
      exact rt_cell w.heap.size 0 _ 32 _ HO.out.1 (World.rangeAt_setCells_same _ _ _ _ (by rw [HO.out.1]; exact ht)) Tryz.underlying40 rfl (by kernel_rfl) rfl rfl rfl ⟨by rw [HD.out.1]; rfl, below_setCells _ (Nat.le_refl _) _ _ _ HR.out.2.2⟩
end Go.Proofs.YtpnakfeafekneaaGreatDoor

namespace Go.Proofs.YtpnakfeafekneaaGreatDoor
open Go.RowKit
theorem rnolog_any (n : Nat) (w : World) (h2 : n ≤ 32) : Calls Tryz.prog 97 #[.int .i64 n] w fun e w' => e = .returned (dg (Dg.noLog n)) ∧ Below w.heap.size w w' := by
  have hl : ((Dg.noLog n).map b8).length = 32 := by rw [List.length_map]; exact Dg.sum_length n _ h2
  have HB0 := hid (And.intro (Blk.new w 40 (List.replicate 32 (b8 0))) (below_box w (.cells (List.replicate 32 (b8 0)).toArray 40)))
  obtain ⟨D, hD⟩ : ∃ D, D = Dg.noLog n := ⟨_, rfl⟩
  rw [← hD] at hl ⊢
  have HD := hid hD
  clear hD
  go_enter Tryz.func97, Tryz.ntmps97
  go_wp2_with (first
    | (go_at_call 44
       refine (rcut_any n none 0 0 [] _ h2 rfl (Rd.nil _ _) (Nat.le_refl _) (by omega)).mono ?_
       rintro e w2 ⟨rfl, hb2⟩
       rw [show dg (Dg.sum n []) = dg D from by rw [HD.out]; rfl]
       have ht := (HB0.out.1.grown hb2).there 0 32 (by simp)
       have H2 := hid (gro HB0.out.2 hb2)
       clear hb2)
    | ((with_reducible refine st_mid 40 (.tmp 2) (.tmp 4) w.heap.size 0 _ 32 hl ht (by kernel_rfl) (one_b8 _) ?_ ?_ ?_ ?_ ?_); rfl; rfl; rfl; rfl))
  exact rt_cell w.heap.size 0 _ 32 _ hl (World.rangeAt_setCells_same _ _ _ _ (by rw [hl]; exact ht)) Tryz.underlying40 rfl (by kernel_rfl) rfl rfl rfl ⟨rfl, below_setCells _ (Nat.le_refl _) _ _ _ H2.out⟩
theorem rnomap_any (n : Nat) (w : World) (h2 : n ≤ 32) : Calls Tryz.prog 16 #[.int .i64 n] w fun e w' => e = .returned (dg (Dg.noMap n)) ∧ Below w.heap.size w w' := by
  have hl : ((Dg.noMap n).map b8).length = 32 := by rw [List.length_map]; exact Dg.sum_length n _ h2
  have hrd := hid (show Rd ((w.alloc (.cells (List.replicate 32 (b8 0)).toArray 40)).alloc (.cells #[.int .u8 5] 5)) (some ⟨(w.alloc (.cells (List.replicate 32 (b8 0)).toArray 40)).heap.size, 0, none⟩) ([(5 : UInt8)].map b8) from rd_box _ 5)
  rw [show (w.alloc (.cells (List.replicate 32 (b8 0)).toArray 40)).heap.size = w.heap.size + 1 from by simp] at hrd
  have HB0 := hid (And.intro ((Blk.new w 40 (List.replicate 32 (b8 0))).alloc (.cells #[.int .u8 5] 5)) (gro (below_box w (.cells (List.replicate 32 (b8 0)).toArray 40)) (below_box _ (.cells #[.int .u8 5] 5))))
  obtain ⟨D, hD⟩ : ∃ D, D = Dg.noMap n := ⟨_, rfl⟩
  rw [← hD] at hl ⊢
  have HD := hid hD
  clear hD
  go_enter Tryz.func16, Tryz.ntmps16
  go_wp2_with (first
    | (go_at_call 44
       refine (rcut_any n _ 1 1 [5] _ h2 rfl hrd.out (Nat.le_refl _) (by omega)).mono ?_
       rintro e w2 ⟨rfl, hb2⟩
       rw [show dg (Dg.sum n [5]) = dg D from by rw [HD.out]; rfl]
       have ht := (HB0.out.1.grown hb2).there 0 32 (by simp)
       have H2 := hid (gro HB0.out.2 hb2)
       clear hb2)
    | ((with_reducible refine st_mid 40 (.tmp 2) (.tmp 5) w.heap.size 0 _ 32 hl ht (by kernel_rfl) (one_b8 _) ?_ ?_ ?_ ?_ ?_); rfl; rfl; rfl; rfl))
  exact rt_cell w.heap.size 0 _ 32 _ hl (World.rangeAt_setCells_same _ _ _ _ (by rw [hl]; exact ht)) Tryz.underlying40 rfl (by kernel_rfl) rfl rfl rfl ⟨rfl, below_setCells _ (Nat.le_refl _) _ _ _ H2.out⟩
theorem rleafin_any (A : Option Addr) (m c : Nat) (l : List UInt8) (w : World) (hm : l.length = m) (h : Rd w A (l.map b8)) (hl : m < 549755813888) :
    Calls Tryz.prog 147 #[.slice A m c] w (Nb w (Dg.leafIn l)) := by
  have hrd := hid (show Rd (w.alloc (.cells #[.int .u8 0] 5)) (some ⟨w.heap.size, 0, none⟩) ([(0 : UInt8)].map b8) from rd_box w 0)
  have HH := hid (And.intro hm h)
  clear hm h
  go_enter Tryz.func147, Tryz.ntmps147
  go_wp2_with (go_at_call 148
               refine (join_any _ 1 1 [0] A m c l _ rfl HH.out.1 hrd.out (HH.out.2.grown (below_box w _)) (by omega)).mono ?_
               rintro e w1 ⟨A1, c1, n1, hn1, rfl, hb1, ho1⟩
               have H1 := hid (And.intro hn1 (And.intro hb1 ho1))
               clear hn1 hb1 ho1)
  go_ret
  exact ⟨A1, c1, n1, H1.out.1, rfl, gro (below_box w _) H1.out.2.1, own_base H1.out.2.2 (fun k hk => Nat.le_trans (below_box w (.cells #[.int .u8 0] 5)).size ((H1.out.2.2.lt k hk).1))⟩
theorem rkeyin_any (A : Option Addr) (m c : Nat) (l : List UInt8) (w : World) (hm : l.length = m) (h : Rd w A (l.map b8)) (hl : m < 549755813888) :
    Calls Tryz.prog 215 #[.slice A m c] w (Nb w (Dg.keyIn l)) := by
  have hrd := hid (show Rd (w.alloc (.cells #[.int .u8 2] 5)) (some ⟨w.heap.size, 0, none⟩) ([(2 : UInt8)].map b8) from rd_box w 2)
  have HH := hid (And.intro hm h)
  clear hm h
  go_enter Tryz.func215, Tryz.ntmps215
  go_wp2_with (go_at_call 148
               refine (join_any _ 1 1 [2] A m c l _ rfl HH.out.1 hrd.out (HH.out.2.grown (below_box w _)) (by omega)).mono ?_
               rintro e w1 ⟨A1, c1, n1, hn1, rfl, hb1, ho1⟩
               have H1 := hid (And.intro hn1 (And.intro hb1 ho1))
               clear hn1 hb1 ho1)
  go_ret
  exact ⟨A1, c1, n1, H1.out.1, rfl, gro (below_box w _) H1.out.2.1, own_base H1.out.2.2 (fun k hk => Nat.le_trans (below_box w (.cells #[.int .u8 2] 5)).size ((H1.out.2.2.lt k hk).1))⟩
set_option maxRecDepth 100000 in
theorem rleaf_any (n : Nat) (A : Option Addr) (m c : Nat) (l : List UInt8) (w : World) (h2 : n ≤ 32) (hm : l.length = m) (h : Rd w A (l.map b8)) (hl0 : m < 274877906944) :
    Calls Tryz.prog 100 #[.int .i64 n, .slice A m c] w fun e w' => e = .returned (dg (Dg.leaf n l)) ∧ Below w.heap.size w w' := by
  have hl : ((Dg.leaf n l).map b8).length = 32 := by rw [List.length_map]; exact Dg.sum_length n _ h2
  obtain ⟨D, hD⟩ : ∃ D, D = Dg.leaf n l := ⟨_, rfl⟩
  have hD' : Dg.sum n (Dg.leafIn l) = D := hD.symm
  rw [← hD] at hl ⊢
  have hb0 := Blk.new w 40 (List.replicate 32 (b8 0))
  have HB0 := hid (And.intro hb0 hD')
  clear hb0 hD hD'
  go_enter Tryz.func100, Tryz.ntmps100
  go_wp2_with (first
    | (go_at_call 44
       refine (rcut_any n A1 n1 c1 (Dg.leafIn l) w1 h2 H1.out.1 H1.out.2.2.1 H1.out.2.2.2.1 (by have h9 := H1.out.1; have h8 : (Dg.leafIn l).length = m + 1 := (by rw [← hm]; rfl); omega)).mono ?_
       rintro e w2 ⟨rfl, hb2⟩
       rw [HB0.out.2]
       have ht := ((HB0.out.1.grown H1.out.2.1).grown hb2).there 0 32 (by simp)
       have H2 := hid (gro H1.out.2.2.2.2 hb2)
       clear hb2)
    | (go_at_call 147
       refine (rleafin_any A m c l _ hm (h.grown (below_box w _)) (by omega)).mono ?_
       rintro e w1 ⟨A1, c1, n1, hn1, rfl, hb1, ho1⟩
       have H1 := hid (And.intro hn1 (And.intro hb1 (And.intro (own_rd ho1).1 (And.intro (own_rd ho1).2 (gro (below_box w _) hb1)))))
       clear hn1 hb1 ho1)
    | ((with_reducible refine st_mid 40 (.tmp 4) (.tmp 8) w.heap.size 0 _ 32 hl ht (by kernel_rfl) (one_b8 _) ?_ ?_ ?_ ?_ ?_); rfl; rfl; rfl; rfl))
  exact rt_cell w.heap.size 0 _ 32 _ hl (World.rangeAt_setCells_same _ _ _ _ (by rw [hl]; exact ht)) Tryz.underlying40 rfl (by kernel_rfl) rfl rfl rfl ⟨rfl, below_setCells _ (Nat.le_refl _) _ _ _ H2.out⟩
set_option maxRecDepth 100000 in
theorem rkey_any (n : Nat) (A : Option Addr) (m c : Nat) (l : List UInt8) (w : World) (h2 : n ≤ 32) (hm : l.length = m) (h : Rd w A (l.map b8)) (hl0 : m < 274877906944) :
    Calls Tryz.prog 197 #[.int .i64 n, .slice A m c] w fun e w' => e = .returned (dg (Dg.key n l)) ∧ Below w.heap.size w w' := by
  have hl : ((Dg.key n l).map b8).length = 32 := by rw [List.length_map]; exact Dg.sum_length n _ h2
  obtain ⟨D, hD⟩ : ∃ D, D = Dg.key n l := ⟨_, rfl⟩
  have hD' : Dg.sum n (Dg.keyIn l) = D := hD.symm
  rw [← hD] at hl ⊢
  have hb0 := Blk.new w 40 (List.replicate 32 (b8 0))
  have HB0 := hid (And.intro hb0 hD')
  clear hb0 hD hD'
  go_enter Tryz.func197, Tryz.ntmps197
  go_wp2_with (first
    | (go_at_call 44
       refine (rcut_any n A1 n1 c1 (Dg.keyIn l) w1 h2 H1.out.1 H1.out.2.2.1 H1.out.2.2.2.1 (by have h9 := H1.out.1; have h8 : (Dg.keyIn l).length = m + 1 := (by rw [← hm]; rfl); omega)).mono ?_
       rintro e w2 ⟨rfl, hb2⟩
       rw [HB0.out.2]
       have ht := ((HB0.out.1.grown H1.out.2.1).grown hb2).there 0 32 (by simp)
       have H2 := hid (gro H1.out.2.2.2.2 hb2)
       clear hb2)
    | (go_at_call 215
       refine (rkeyin_any A m c l _ hm (h.grown (below_box w _)) (by omega)).mono ?_
       rintro e w1 ⟨A1, c1, n1, hn1, rfl, hb1, ho1⟩
       have H1 := hid (And.intro hn1 (And.intro hb1 (And.intro (own_rd ho1).1 (And.intro (own_rd ho1).2 (gro (below_box w _) hb1)))))
       clear hn1 hb1 ho1)
    | ((with_reducible refine st_mid 40 (.tmp 4) (.tmp 8) w.heap.size 0 _ 32 hl ht (by kernel_rfl) (one_b8 _) ?_ ?_ ?_ ?_ ?_); rfl; rfl; rfl; rfl))
  exact rt_cell w.heap.size 0 _ 32 _ hl (World.rangeAt_setCells_same _ _ _ _ (by rw [hl]; exact ht)) Tryz.underlying40 rfl (by kernel_rfl) rfl rfl rfl ⟨rfl, below_setCells _ (Nat.le_refl _) _ _ _ H2.out⟩
end Go.Proofs.YtpnakfeafekneaaGreatDoor

namespace Go.Proofs.YtpnakfeafekneaaGreatDoor
open Go.RowKit
set_option maxHeartbeats 1000000 in
set_option maxRecDepth 100000 in
theorem rnodein_any (n : Nat) (l r : List UInt8) (w : World) (h2 : n ≤ 32) (hl : l.length = 32) (hr : r.length = 32) :
    Calls Tryz.prog 146 #[.int .i64 n, dg l, dg r] w (Nb w (Dg.nodeIn n l r)) := by
  have s1 := run_sliceAt_hi (P := Tryz.prog) Tryz.underlying40 (by kernel_rfl) w.heap.size 0 n h2
  have s2 := run_sliceAt_hi (P := Tryz.prog) Tryz.underlying40 (by kernel_rfl) (w.heap.size + 1) 0 n h2
  have hb1 := (Blk.new w 40 (l.map b8)).alloc (.cells (r.map b8).toArray 40)
  have hb2 := Blk.new (w.alloc (.cells (l.map b8).toArray 40)) 40 (r.map b8)
  rw [show (w.alloc (.cells (l.map b8).toArray 40)).heap.size = w.heap.size + 1 by simp] at hb2
  have hbl := gro (below_box w (.cells (l.map b8).toArray 40)) (below_box _ (.cells (r.map b8).toArray 40))
  have htl : (l.take n).length = n := by simp [hl]; omega
  have htr : (r.take n).length = n := by simp [hr]; omega
  have HB0 := hid (And.intro hb1 (And.intro hb2 hbl))
  have HL := hid (And.intro htl htr)
  clear hb1 hb2 hbl htl htr
  go_enter Tryz.func146, Tryz.ntmps146
  go_upto_region 1 with fail
  refine wp_world (fun w' => Blk w' w.heap.size 40 (l.map b8) ∧ Blk w' (w.heap.size + 1) 40 (r.map b8) ∧ Below w.heap.size w w') HB0.out ?_
  rintro w1 ⟨hb1, hb2, hbl⟩
  have hd : Below w1.heap.size w1 w1.drew := (Below.refl _ _).drew
  have hda : Below w1.heap.size w1 (w1.alloc (.cells #[.int .u8 1] 5)).drew := (below_box w1 (.cells #[.int .u8 1] 5)).trans (Below.refl _ _).drew
  have hcl : ∀ w', Below w1.heap.size w1 w' → Calls Tryz.prog 148 #[.slice (some ⟨w.heap.size, 0, none⟩) n 32, .slice (some ⟨w.heap.size + 1, 0, none⟩) n 32] w' (Nb w' (l.take n ++ r.take n)) := fun w' hb =>
    join_any _ n 32 (l.take n) _ n 32 (r.take n) w' HL.out.1 HL.out.2 (by rw [List.map_take]; exact (Rd.of _ (hb1.grown hb).whole).take n) (by rw [List.map_take]; exact (Rd.of _ (hb2.grown hb).whole).take n) (by omega)
  have HR1 := hid (show ∀ w4 : World, Rd (w4.alloc (.cells #[.int .u8 1] 5)) (some ⟨w4.heap.size, 0, none⟩) ([(1 : UInt8)].map b8) from fun w4 => rd_box w4 1)
  have HT := hid (And.intro hcl (And.intro hd (And.intro hda hbl)))
  clear hcl hd hda hbl hb1 hb2 HB0
  go_region_held3 (fun _ => True) (exact True.intro)
    (first
      | (go_at_call 148
         with_reducible refine Calls.mono (join_any (some ⟨w1.heap.size, 0, none⟩) 1 1 [1] A4 n4 c4 (l.take n ++ r.take n) w4 rfl K4.out.2.1 K4.out.2.2.2 K4.out.2.2.1 (by have h := K4.out.2.1; rw [List.length_append, HL.out.1, HL.out.2] at h; omega)) ?_
         rintro ee w5 ⟨A5, c5, n5, hn5, rfl, hb5, ho5⟩
         have H5 := hid (And.intro hn5 (And.intro (gro (gro HT.out.2.2.2 K4.out.1) hb5) (own_base ho5 (fun k hk => Nat.le_trans (gro HT.out.2.2.2 K4.out.1).size ((ho5.lt k hk).1)))))
         clear hn5 hb5 ho5)
      | (go_at_call 148
         with_reducible refine Calls.mono (join_any (some ⟨w4.heap.size, 0, none⟩) 1 1 [1] A4 n4 c4 (l.take n ++ r.take n) _ rfl V4.out.2.1 (HR1.out w4) (V4.out.2.2.1.grown (below_box w4 _)) (by have h := V4.out.2.1; rw [List.length_append, HL.out.1, HL.out.2] at h; omega)) ?_
         rintro ee w5 ⟨A5, c5, n5, hn5, rfl, hb5, ho5⟩
         have H5 := hid (And.intro hn5 (And.intro (gro (gro HT.out.2.2.2 V4.out.2.2.2) hb5) (own_base ho5 (fun k hk => Nat.le_trans (gro HT.out.2.2.2 V4.out.2.2.2).size ((ho5.lt k hk).1)))))
         clear hn5 hb5 ho5)
      | (go_at_call 148
         with_reducible refine Calls.mono (HT.out.1 _ HT.out.2.2.1) ?_
         rintro ee w4 ⟨A4, c4, n4, hn4, rfl, hb4, ho4⟩
         have K4 := hid (And.intro (gro HT.out.2.2.1 hb4) (And.intro hn4 (And.intro (own_rd ho4).1 (show Rd w4 (some ⟨w1.heap.size, 0, none⟩) ([(1 : UInt8)].map b8) from rd_grown_box 1 hb4))))
         clear hn4 hb4 ho4)
      | (go_at_call 148
         with_reducible refine Calls.mono (HT.out.1 _ HT.out.2.1) ?_
         rintro ee w4 ⟨A4, c4, n4, hn4, rfl, hb4, ho4⟩
         have V4 := hid (And.intro (gro HT.out.2.1 hb4) (And.intro hn4 (And.intro (own_rd ho4).1 (gro (gro HT.out.2.1 hb4) (below_box w4 (.cells #[.int .u8 1] 5))))))
         clear hn4 hb4 ho4))
  all_goals
    go_wp2_with fail
    go_ret
    exact ⟨A5, c5, n5, H5.out.1, rfl, H5.out.2.1, H5.out.2.2⟩
set_option maxRecDepth 100000 in
theorem rnode_any (n : Nat) (l r : List UInt8) (w : World) (h2 : n ≤ 32) (hl0 : l.length = 32) (hr0 : r.length = 32) :
    Calls Tryz.prog 99 #[.int .i64 n, dg l, dg r] w fun e w' => e = .returned (dg (Dg.node n l r)) ∧ Below w.heap.size w w' := by
  have hl : ((Dg.node n l r).map b8).length = 32 := by rw [List.length_map]; exact Dg.sum_length n _ h2
  have hll : (l.map b8).length = 32 := by rw [List.length_map, hl0]
  have hrl : (r.map b8).length = 32 := by rw [List.length_map, hr0]
  obtain ⟨D, hD⟩ : ∃ D, D = Dg.node n l r := ⟨_, rfl⟩
  have hD' : Dg.sum n (Dg.nodeIn n l r) = D := hD.symm
  rw [← hD] at hl ⊢
  have hb1 := ((Blk.new w 40 (l.map b8)).alloc (.cells (r.map b8).toArray 40)).alloc (.cells (List.replicate 32 (b8 0)).toArray 40)
  have hb2 := (Blk.new (w.alloc (.cells (l.map b8).toArray 40)) 40 (r.map b8)).alloc (.cells (List.replicate 32 (b8 0)).toArray 40)
  have hb3 := Blk.new ((w.alloc (.cells (l.map b8).toArray 40)).alloc (.cells (r.map b8).toArray 40)) 40 (List.replicate 32 (b8 0))
  rw [show (w.alloc (.cells (l.map b8).toArray 40)).heap.size = w.heap.size + 1 by simp] at hb2
  rw [show ((w.alloc (.cells (l.map b8).toArray 40)).alloc (.cells (r.map b8).toArray 40)).heap.size = w.heap.size + 1 + 1 by simp] at hb3
  have hbl := gro (gro (below_box w (.cells (l.map b8).toArray 40)) (below_box _ (.cells (r.map b8).toArray 40))) (below_box _ (.cells (List.replicate 32 (b8 0)).toArray 40))
  have HB0 := hid (And.intro hb1 (And.intro hb2 (And.intro hb3 hbl)))
  have HD := hid (And.intro hD' (And.intro hl0 hr0))
  clear hb1 hb2 hb3 hbl hD hD'
  go_enter Tryz.func99, Tryz.ntmps99
  go_upto_region 1 with fail
  refine wp_world (fun w' => Blk w' w.heap.size 40 (l.map b8) ∧ Blk w' (w.heap.size + 1) 40 (r.map b8) ∧ Blk w' (w.heap.size + 1 + 1) 40 (List.replicate 32 (b8 0)) ∧ Below w.heap.size w w') HB0.out ?_
  rintro w0 ⟨hb1, hb2, hb3, hbl⟩
  have p1 := hb1.whole
  have p2 := hb2.whole
  have HW := hid (And.intro hb3 hbl)
  clear hb1 hb2 hb3 hbl HB0
  go_wp2_with (first
    | ((with_reducible refine ld_mid 40 (.tmp 4) w.heap.size 0 _ 32 _ hll p1 Tryz.underlying40 rfl (by kernel_rfl) ?_ ?_ ?_ ?_); rfl; rfl; rfl)
    | ((with_reducible refine ld_mid 40 (.tmp 5) (w.heap.size + 1) 0 _ 32 _ hrl p2 Tryz.underlying40 rfl (by kernel_rfl) ?_ ?_ ?_ ?_); rfl; rfl; rfl)
    | (go_at_call 44
       refine (rcut_any n A1 n1 c1 (Dg.nodeIn n l r) w1 h2 H1.out.1 H1.out.2.2.1 H1.out.2.2.2.1 (by have h9 := H1.out.1; unfold Dg.nodeIn at h9; simp at h9; omega)).mono ?_
       rintro e w2 ⟨rfl, hb2⟩
       rw [HD.out.1]
       have ht := ((HW.out.1.grown H1.out.2.1).grown hb2).there 0 32 (by simp)
       have H2 := hid (gro H1.out.2.2.2.2 hb2)
       clear hb2)
    | (go_at_call 146
       refine (rnodein_any n l r _ h2 HD.out.2.1 HD.out.2.2).mono ?_
       rintro e w1 ⟨A1, c1, n1, hn1, rfl, hb1, ho1⟩
       have H1 := hid (And.intro hn1 (And.intro hb1 (And.intro (own_rd ho1).1 (And.intro (own_rd ho1).2 (gro HW.out.2 hb1)))))
       clear hn1 hb1 ho1)
    | ((with_reducible refine st_mid 40 (.tmp 6) (.tmp 12) (w.heap.size + 1 + 1) 0 _ 32 hl ht (by kernel_rfl) (one_b8 _) ?_ ?_ ?_ ?_ ?_); rfl; rfl; rfl; rfl))
  exact rt_cell (w.heap.size + 1 + 1) 0 _ 32 _ hl (World.rangeAt_setCells_same _ _ _ _ (by rw [hl]; exact ht)) Tryz.underlying40 rfl (by kernel_rfl) rfl rfl rfl ⟨rfl, below_setCells _ (by omega) _ _ _ H2.out⟩
end Go.Proofs.YtpnakfeafekneaaGreatDoor
