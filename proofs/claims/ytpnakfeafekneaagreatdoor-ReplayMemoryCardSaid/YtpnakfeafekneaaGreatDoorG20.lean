/- Part 20 of this proof: T9, H1, H2, H3, H4, P0. -/
import Derived.Test.YtpnakfeafekneaaGreatDoorG19
set_option linter.unusedSimpArgs false
set_option linter.unusedVariables false
namespace Go.Proofs.YtpnakfeafekneaaGreatDoor
open Go.RowKit
theorem run_callFunc_here {x : Value} (w : World) : (callFunc 120 (#[] ++ #[x] ++ #[])).run Tryz.prog w = .ok (.enter 120 #[x]) w := by kernel_rfl
set_option maxRecDepth 100000 in
theorem tappend_ok (b n : Nat) (hn1 : 1 ≤ n) (hn2 : n ≤ 32) (ds es : List (List UInt8)) (A : Option Addr) (c : Nat) (w : World) (h : TreeAt w b n ds) (hw : Words w) (hf : Fits n es) (hA : Rd w A (dgs es).flatten) (hl : ds.length + es.length < 1099511627776) :
    Calls Tryz.prog 75 #[ptr b, .slice A es.length c] w fun e w' => ∃ b', e = .returned (.tuple #[ptr b', .int .i64 0]) ∧ Below w.heap.size w w' ∧ TreeAt w' b' n (ds ++ es) := by
  obtain ⟨A0, c0, bs, ts, hT⟩ := h.is
  have hbl := hT.blk.lt
  have k0 : w.cell? ⟨b, 0, none⟩ = some (.int .i64 n) := by rw [hT.blk.cell]; rfl
  have HA := hid (And.intro hf (And.intro hA (And.intro hT (And.intro h k0))))
  clear hf hA hT h k0
  go_enter Tryz.func75, Tryz.ntmps75
  go_wp2_with fail
  go_loopg [15] es.length (fun g i wr => ∃ j : Nat, j + g = es.length ∧ i = .int .i64 j ∧ Below w.heap.size w wr)
  case atStart => exact ⟨0, by omega, rfl, Below.refl _ _⟩
  case round =>
    obtain ⟨j, hj, rfl, hi⟩ := hrel
    have HI := hid hi
    clear hi
    by_cases hlt : j < es.length
    · have hl32 : ∀ x ∈ dgs es, x.length = 32 := dgs_len fun d hd => (HA.out.1 d hd).1
      have hjl : j < (dgs es).length := by simpa [dgs] using hlt
      obtain ⟨g, o, rfl, hr⟩ := HA.out.2.1 (by
        intro e
        have := flatten_len 32 _ hl32
        rw [e] at this
        simp at this; omega)
      have hp := range_part hr hl32 j hjl
      have hlj : (dgs es)[j].length = 32 := hl32 _ (List.getElem_mem hjl)
      have hej : (dgs es)[j] = es[j].map b8 := by simp [dgs]
      rw [hej] at hp hlj
      have hlb := range_lt hp (by omega)
      have hp2 : wr.rangeAt g (o + j * 32) (es[j].map b8) := range_below hp HI.out hlb
      have hd := HA.out.1 es[j] (List.getElem_mem hlt)
      have hbn : Blk (wr.alloc (.cells (es[j].map b8).toArray 40)) wr.heap.size 40 (es[j].map b8) := Blk.new _ _ _
      have HD := hid (And.intro hd hbn)
      clear hr hp hej hl32 hd hbn
      have HL := hid hlj
      clear hlj
      go_upto_region 6 with (first
        | ((with_reducible refine ld_mid 40 (.tmp 17) g (o + j * 32) _ 32 _ HL.out hp2 Tryz.underlying40 rfl (by kernel_rfl) ?_ ?_ ?_ ?_); rfl; rfl; rfl)
        | ((with_reducible refine st_new 40 (.tmp 7) (.tmp 18) _ _ (es[j].map b8) 32 HL.out ?_ (by kernel_rfl) (one_b8 _) ?_ ?_ ?_ ?_ ?_); rfl; rfl; rfl; rfl; rfl))
      refine wp_world (fun w' => Blk w' wr.heap.size 40 (es[j].map b8) ∧ Below w.heap.size w w') ⟨HD.out.2, HI.out.alloc HI.out.size _⟩ ?_
      rintro w2 ⟨hb2, hbl2⟩
      have q0 := Fut.cell (show w2.cell? ⟨b, 0, none⟩ = some (.int .i64 n) from by rw [hbl2.cell (p := ⟨b, 0, none⟩) hbl]; exact HA.out.2.2.2.2)
      have hcf : ∀ s : Fut w2, Calls Tryz.prog 119 #[.int .i64 n, dg es[j]] s.v fun e w'' => e = .returned (.bool true) ∧ ∃ s' : Fut w2, w'' = s'.v := fun s => Calls.fut_of (by
        have := form_any n es[j] hn1 hn2 HD.out.1.1 s.v
        rw [HD.out.1.2] at this
        exact this)
      have HF := hid (And.intro hcf (And.intro hb2.whole hbl2))
      clear hcf hb2 hbl2
      dsimp only [Act.put]
      refine wp_region_fut (by kernel_rfl) (by kernel_rfl) ?_
      repeat (first
        | (go_big_quiet_want; (with_reducible refine quiet_ld 40 (.tmp 7) wr.heap.size 0 _ 32 _ HL.out (range_fut HF.out.2.1) Tryz.underlying40 rfl (by kernel_rfl) ?_ ?_ ?_); rfl; rfl; simp only [Act.put, List.setIfInBounds_toArray, List.set_cons_zero, List.set_cons_succ]; go_big_quiet_on)
        | go_big_quiet_step (with_reducible exact HF.out.1 _))
      refine wpQuiet_nil ?_
      rintro _ ⟨s, rfl⟩
      go_wp2_with fail
      go_roundg (gk - 1)
      case measure => omega
      case rel => exact ⟨j + 1, by omega, by go_num, HF.out.2.2.trans (s.below.mono HF.out.2.2.size)⟩
    · rename World => wo
      go_upto_region 9 with fail
      have hTw := HA.out.2.2.2.1.grown HI.out
      have HTI := HA.out.2.2.1
      have hblw : Blk wo b 180 [.int .i64 n, .int .u64 ds.length, .slice A0 bs.length c0] := HTI.blk.below HI.out hbl
      have hrdw : Rd wo A0 (bs.map ptr) := HTI.rd.grown HI.out
      have hbsl : bs.length < 1099511627776 := by
        have h1 := HTI.nodes.len
        have h2 := peaks_len HTI.peaks
        rw [HTI.leaves] at h2
        omega
      have HW := hid (And.intro hTw (And.intro hblw (And.intro hrdw hbsl)))
      clear hTw HTI hblw hrdw hbsl
      refine wp_region_own 13 12 11 _ _ 38 120 #[.slice A0 bs.length c0] (fun u w' => w'.ownsRow wo.heap.size 196 1 u bs.length (bs.map ptr))
        { tmps := #[ptr b, .slice A es.length c, undef, undef, u4, u5, undef, u7, undef, undef, undef, ptr b, .bool false, .slice A es.length c, .int .i64 es.length, .int .i64 j, .bool false, u17, u18, u19, u20, u21, u22, u23, u24, u25, u26, ptr b, ptr b, ptr b, .int .i64 n, ptr b, ptr b, .pointer (some ⟨b, 1, none⟩), .int .u64 ds.length, ptr b, ptr b, .pointer (some ⟨b, 2, none⟩), .slice A0 bs.length c0, undef, undef, undef, undef, undef, undef, undef, undef, undef, undef, undef, undef, undef, undef], defers := [] }
        (by kernel_rfl) rfl rfl rfl rfl (by decide) (by decide) (by kernel_rfl) (fun u => by kernel_rfl) (by kernel_rfl) ?hrun ?hcall ?hst ?h ?ht
      case hrun =>
        intro a w' ha
        have e : a.eval (.tmp 38) = .slice A0 bs.length c0 := by simp [Act.eval, Array.getD_eq_getD_getElem?, ha]
        rw [execOp_call_go, show (#[Operand.tmp 38] : Array Operand).map a.eval = #[.slice A0 bs.length c0] from by simp [e]]
        exact run_callFunc_here w'
      case hcall =>
        intro w' hb
        refine (clone_nodes A0 bs.length c0 (bs.map ptr) w' (by simp) (HW.out.2.2.1.grown hb) (fun v hv => by obtain ⟨x, _, rfl⟩ := List.mem_map.1 hv; rfl) (by have := HW.out.2.2.2; omega)).mono ?_
        rintro e w'' ⟨u, rfl, hb2, hown, _⟩
        exact ⟨u, rfl, hb2, own_base hown (fun k hk => Nat.le_trans hb.size (hown.lt k hk).1)⟩
      case hst => exact fun u w1 w2 hb h => own_grown h hb
      case h =>
        intro w2 u hb2
        have hb3 := HW.out.2.1.grown hb2
        have q0 := Fut.cell (show w2.cell? ⟨b, 0, none⟩ = some (.int .i64 n) from by rw [hb3.cell]; rfl)
        have q1 := Fut.cell (show w2.cell? ⟨b, 1, none⟩ = some (.int .u64 ds.length) from by rw [hb3.cell]; rfl)
        have q2 := Fut.cell (show w2.cell? ⟨b, 2, none⟩ = some (.slice A0 bs.length c0) from by rw [hb3.cell]; rfl)
        clear hb3
        dsimp only [List.take_succ_cons, List.take_zero, List.drop_succ_cons, List.drop_zero, List.set_cons_zero, List.set_cons_succ]
        repeat go_big_quiet_step (fail)
        exact wpQuiet_nil rfl
      case ht =>
        intro u w2 hb2 hown
        obtain ⟨A9, c9, rfl, -, -⟩ := rd_own hown
        have hbw2 : Below w.heap.size w w2 := HI.out.trans (hb2.mono HI.out.size)
        have hB2 : wo.heap.size ≤ w2.heap.size := hb2.size
        have hnew : TrO wo.heap.size w2.heap.size n (w2.alloc (.cells #[.int .i64 n, .int .u64 ds.length, .slice A9 bs.length c9] 180)) ds.length bs ts (.slice A9 bs.length c9) :=
          ⟨Blk.new w2 180 [.int .i64 n, .int .u64 ds.length, .slice A9 bs.length c9], own_grown hown (below_box _ _), HA.out.2.2.1.nodes.stay (NodesStay.of_grown (gro hbw2 (below_box _ _))), hB2⟩
        have HN := hid (And.intro hnew (And.intro hbw2 hb2))
        clear hnew hbw2 hown hb2
        dsimp only [List.drop_succ_cons, List.drop_zero, Act.put, List.setIfInBounds_toArray, List.set_cons_zero, List.set_cons_succ]
        go_wp2_with fail
        go_loopg [44] es.length (fun g i w5 => ∃ (j2 : Nat) (bs2 : List Nat) (ts2 : List MT) (v2 : Value), j2 + g = es.length ∧ i = .int .i64 j2 ∧ TrO wo.heap.size w2.heap.size n w5 (ds.length + j2) bs2 ts2 v2 ∧ Peaks n ts2 ∧ peakLeaves ts2 = ds ++ es.take j2 ∧ Below wo.heap.size wo w5)
        case atStart => exact ⟨0, bs, ts, _, by omega, rfl, HN.out.1, HA.out.2.2.1.peaks, by rw [HA.out.2.2.1.leaves]; simp, HN.out.2.2.trans ((below_box w2 _).mono hB2)⟩
        case round =>
          obtain ⟨j2, bs2, ts2, v2, hj2, rfl, ht2, hp2, hl2, hb2⟩ := hrel
          have hbase : wo.heap.size ≤ wr.heap.size := hb2.size
          have hbw : Below w.heap.size w wr := HI.out.trans (hb2.mono HI.out.size)
          have hFds := HA.out.2.2.1.fits
          by_cases hlt2 : j2 < es.length
          · have hl32 : ∀ x ∈ dgs es, x.length = 32 := dgs_len fun d hd => (HA.out.1 d hd).1
            have hjl : j2 < (dgs es).length := by simpa [dgs] using hlt2
            obtain ⟨g, o, rfl, hr⟩ := HA.out.2.1 (by
              intro e
              have := flatten_len 32 _ hl32
              rw [e] at this
              simp at this; omega)
            have hp := range_part hr hl32 j2 hjl
            have hlj : (dgs es)[j2].length = 32 := hl32 _ (List.getElem_mem hjl)
            have hej : (dgs es)[j2] = es[j2].map b8 := by simp [dgs]
            rw [hej] at hp hlj
            have hlb := range_lt hp (by omega)
            have hpr : wr.rangeAt g (o + j2 * 32) (es[j2].map b8) := range_below hp hbw hlb
            have hd := HA.out.1 es[j2] (List.getElem_mem hlt2)
            have hbx := below_box wr (.cells (es[j2].map b8).toArray 40)
            have hbn : Blk (wr.alloc (.cells (es[j2].map b8).toArray 40)) wr.heap.size 40 (es[j2].map b8) := Blk.new _ _ _
            have hbr := hbn.whole
            have htl2 := peaks_len hp2
            have hfit2 : Fits n (ds ++ es.take j2) := fun d hd => by
              rcases List.mem_append.1 hd with h | h
              · exact hFds d h
              · exact HA.out.1 d (List.mem_of_mem_take h)
            have hlen2 : (ds ++ es.take j2).length = ds.length + j2 := by simp; omega
            rw [hl2, hlen2] at htl2
            have hcall := tadd_any wo.heap.size w2.heap.size n (ds.length + j2) hn1 hn2 bs2 ts2 v2 (ds ++ es.take j2) es[j2] _ (ht2.grown hbx) ((hw.below hbw).below hbx) (Nat.le_trans hbase hbx.size) hd.1 hd.2 hp2 hl2 hfit2 (by omega) (by omega) (by omega) (Nat.lt_of_lt_of_le (hw.below HI.out).2 (Nat.le_refl _))
            have hps := push_leaf (d := es[j2]) hp2 hl2
            have HX := hid (And.intro hcall (And.intro hps (And.intro hb2 hbx)))
            have HL := hid hlj
            clear hr hp hej hl32 hd hbn hfit2 hlen2 htl2 hcall hps hlj hb2 hbx ht2 hp2 hl2 hFds
            go_wp2_with (first
              | ((with_reducible refine ld_mid 40 (.tmp 46) g (o + j2 * 32) _ 32 _ HL.out hpr Tryz.underlying40 rfl (by kernel_rfl) ?_ ?_ ?_ ?_); rfl; rfl; rfl)
              | ((with_reducible refine st_new 40 (.tmp 10) (.tmp 47) _ _ (es[j2].map b8) 32 HL.out ?_ (by kernel_rfl) (one_b8 _) ?_ ?_ ?_ ?_ ?_); rfl; rfl; rfl; rfl; rfl)
              | ((with_reducible refine ld_mid 40 (.tmp 10) wr.heap.size 0 _ 32 _ HL.out hbr Tryz.underlying40 rfl (by kernel_rfl) ?_ ?_ ?_ ?_); rfl; rfl; rfl)
              | (go_at_call 121; refine HX.out.1.mono ?_; rintro e w7 ⟨rfl, hb7, bs7, v7, ht7⟩; have HY := hid (And.intro hb7 ht7); clear hb7 ht7))
            go_roundg (gk - 1)
            case measure => omega
            case rel => exact ⟨j2 + 1, bs7, _, v7, by omega, by go_num, HY.out.2, HX.out.2.1.1, by rw [HX.out.2.1.2, List.take_succ_eq_append_getElem hlt2, List.append_assoc], HX.out.2.2.1.trans ((HX.out.2.2.2.mono hbase).trans HY.out.1)⟩
          · obtain rfl : j2 = es.length := by omega
            rw [List.take_length] at hl2
            obtain ⟨A7, c7, hv7, hr7, hc7⟩ := rd_own ht2.own
            subst hv7
            have hfin : TreeAt wr w2.heap.size n (ds ++ es) := ⟨A7, c7, bs2, ts2, by rw [List.length_append]; exact ht2.blk, hr7, hc7, ⟨ht2.nodes, own_tyd ht2.own⟩, hp2, hl2, fun d hd => by
              rcases List.mem_append.1 hd with h | h
              · exact hFds d h
              · exact HA.out.1 d h⟩
            have HZ := hid (And.intro hfin hbw)
            clear hfin hbw hr7 hl2 hp2 ht2 hb2 hFds
            go_wp2_with fail
            go_ret2
            exact ⟨_, rfl, HZ.out.2, HZ.out.1⟩
end Go.Proofs.YtpnakfeafekneaaGreatDoor

namespace Go.Proofs.YtpnakfeafekneaaGreatDoor
open Go.RowKit
namespace Lx
def cmpB (x y : UInt8) : Int := if x < y then -1 else if y < x then 1 else 0
def cmp : List UInt8 → List UInt8 → Int
  | [], [] => 0
  | [], _ :: _ => -1
  | _ :: _, [] => 1
  | x :: xs, y :: ys => if cmpB x y ≠ 0 then cmpB x y else cmp xs ys
end Lx
theorem nan_any (x : UInt8) (w : World) : Calls Tryz.prog 212 #[b8 x] w fun e w' => e = .returned (.bool false) ∧ w = w' := by
  go_enter Tryz.func212, Tryz.ntmps212
  go_wp2_with fail
  go_ret
  exact ⟨by simp, rfl⟩
theorem n8_less (x y : UInt8) : n8 x < n8 y ↔ x < y := by unfold n8; rw [UInt8.lt_iff_toNat_lt]; omega
theorem cmpb_any (x y : UInt8) (w : World) : Calls Tryz.prog 192 #[b8 x, b8 y] w fun e w' => e = .returned (.int .i64 (Lx.cmpB x y)) ∧ w = w' := by
  by_cases h1 : x < y
  · have i1 : n8 x < n8 y := (n8_less x y).2 h1
    have HE := hid (show Lx.cmpB x y = -1 by simp [Lx.cmpB, h1])
    clear h1
    go_enter Tryz.func192, Tryz.ntmps192
    go_wp2_with (go_at_call 212; refine (nan_any _ _).mono ?_; rintro e w1 ⟨rfl, rfl⟩)
    go_ret
    exact ⟨by rw [HE.out]; rfl, rfl⟩
  · have i1 : ¬ n8 x < n8 y := fun h => h1 ((n8_less x y).1 h)
    by_cases h2 : y < x
    · have i2 : n8 y < n8 x := (n8_less y x).2 h2
      have HE := hid (show Lx.cmpB x y = 1 by simp [Lx.cmpB, h1, h2])
      clear h1 h2
      go_enter Tryz.func192, Tryz.ntmps192
      go_wp2_with (go_at_call 212; refine (nan_any _ _).mono ?_; rintro e w1 ⟨rfl, rfl⟩)
      go_ret
      exact ⟨by rw [HE.out]; rfl, rfl⟩
    · have i2 : ¬ n8 y < n8 x := fun h => h2 ((n8_less y x).1 h)
      have HE := hid (show Lx.cmpB x y = 0 by simp [Lx.cmpB, h1, h2])
      clear h1 h2
      go_enter Tryz.func192, Tryz.ntmps192
      go_wp2_with (go_at_call 212; refine (nan_any _ _).mono ?_; rintro e w1 ⟨rfl, rfl⟩)
      go_ret
      exact ⟨by rw [HE.out]; rfl, rfl⟩
theorem cell_of_rd {w : World} {A : Option Addr} {xs : List UInt8} (h : Rd w A (xs.map b8)) (k : Nat) (hk : k < xs.length) : ∃ g o, A = some ⟨g, o, none⟩ ∧ w.cell? ⟨g, o + k, none⟩ = some (b8 xs[k]) := by
  obtain ⟨g, o, e, hr⟩ := h (by intro e; have := congrArg List.length e; simp at this; rw [this] at hk; simp at hk)
  exact ⟨g, o, e, hr k _ (by simp [hk])⟩
theorem scmp_any (xs ys : List UInt8) (A1 A2 : Option Addr) (c1 c2 : Nat) (w : World) (h1 : Rd w A1 (xs.map b8)) (h2 : Rd w A2 (ys.map b8)) (hl : xs.length < 1099511627776) :
    Calls Tryz.prog 145 #[.slice A1 xs.length c1, .slice A2 ys.length c2] w fun e w' => e = .returned (.int .i64 (Lx.cmp xs ys)) ∧ w = w' := by
  have HR := hid (And.intro h1 h2)
  clear h1 h2
  go_enter Tryz.func145, Tryz.ntmps145
  go_wp2_with fail
  go_loopg [11] xs.length (fun g i wr => ∃ k : Nat, k + g = xs.length ∧ k ≤ ys.length ∧ i = .int .i64 k ∧ Lx.cmp xs ys = Lx.cmp (xs.drop k) (ys.drop k) ∧ wr = w)
  case atStart => exact ⟨0, by omega, by omega, rfl, by simp, rfl⟩
  case round =>
    obtain ⟨k, hk, hky, rfl, he, rfl⟩ := hrel
    have HE := hid he
    clear he
    by_cases hlt : k < xs.length
    · obtain ⟨g1, o1, rfl, d1⟩ := cell_of_rd HR.out.1 k hlt
      have ex : xs.drop k = xs[k] :: xs.drop (k + 1) := List.drop_eq_getElem_cons hlt
      by_cases hly : k < ys.length
      · obtain ⟨g2, o2, rfl, d2⟩ := cell_of_rd HR.out.2 k hly
        have ey : ys.drop k = ys[k] :: ys.drop (k + 1) := List.drop_eq_getElem_cons hly
        have j1 : ¬ (ys.length : Int) ≤ (k : Int) := by omega
        by_cases hc : Lx.cmpB xs[k] ys[k] = 0
        · have hn : Lx.cmp xs ys = Lx.cmp (xs.drop (k + 1)) (ys.drop (k + 1)) := by rw [HE.out, ex, ey, Lx.cmp, if_neg (by rw [hc]; simp)]
          have HN := hid (And.intro hn hc)
          clear hn hc ex ey
          go_wp2_with (go_at_call 192; refine (cmpb_any _ _ _).mono ?_; rw [HN.out.2]; rintro e w1 ⟨rfl, rfl⟩)
          go_roundg (gk - 1)
          case measure => omega
          case rel => exact ⟨k + 1, by omega, by omega, by go_num, HN.out.1, rfl⟩
        · have hn : Lx.cmp xs ys = Lx.cmpB xs[k] ys[k] := by rw [HE.out, ex, ey, Lx.cmp, if_pos hc]
          have hcb : (Lx.cmpB xs[k] ys[k] != 0) = true := by rw [bne_iff_ne]; exact hc
          have HN := hid hn
          clear hn hc ex ey
          go_wp2_with (go_at_call 192; refine (cmpb_any _ _ _).mono ?_; rintro e w1 ⟨rfl, rfl⟩)
          go_ret
          exact ⟨by rw [HN.out]; rfl, rfl⟩
      · have ey : ys.drop k = [] := List.drop_eq_nil_of_le (by omega)
        have hn : Lx.cmp xs ys = 1 := by rw [HE.out, ex, ey, Lx.cmp]
        have j1 : (ys.length : Int) ≤ (k : Int) := by omega
        have HN := hid hn
        clear hn ex ey
        go_wp2_with fail
        go_ret
        exact ⟨by rw [HN.out]; rfl, rfl⟩
    · have ex : xs.drop k = [] := List.drop_eq_nil_of_le (by omega)
      by_cases hly : xs.length < ys.length
      · have j1 : (xs.length : Int) < (ys.length : Int) := by omega
        have hn : Lx.cmp xs ys = -1 := by rw [HE.out, ex, List.drop_eq_getElem_cons (show k < ys.length by omega), Lx.cmp]
        have HN := hid hn
        clear hn ex
        go_wp2_with fail
        go_ret
        exact ⟨by rw [HN.out]; rfl, rfl⟩
      · have j1 : ¬ (xs.length : Int) < (ys.length : Int) := by omega
        have hn : Lx.cmp xs ys = 0 := by rw [HE.out, ex, List.drop_eq_nil_of_le (show ys.length ≤ k by omega), Lx.cmp]
        have HN := hid hn
        clear hn ex
        go_wp2_with fail
        go_ret
        exact ⟨by rw [HN.out]; rfl, rfl⟩
end Go.Proofs.YtpnakfeafekneaaGreatDoor

namespace Go.Proofs.YtpnakfeafekneaaGreatDoor
open Go.RowKit
theorem find1_any (A1 A2 A : Option Addr) (k key : List UInt8) (c1 v2 c2 c : Nat) (w : World) (h1 : Rd w A1 (k.map b8)) (h : Rd w A (key.map b8)) (hl : k.length < 1099511627776) :
    Calls Tryz.prog 144 #[.agg #[.slice A1 k.length c1, .slice A2 v2 c2], .slice A key.length c] w fun e w' => e = .returned (.int .i64 (Lx.cmp k key)) ∧ Below w.heap.size w w' := by
  have hbx := below_box w (.cells #[.slice A1 k.length c1, .slice A2 v2 c2] 166)
  have HB := hid (And.intro hbx (And.intro (h1.grown hbx) (h.grown hbx)))
  clear hbx h1 h
  go_enter Tryz.func144, Tryz.ntmps144
  go_wp2_with (go_at_call 145; refine (scmp_any k key A1 A c1 c _ HB.out.2.1 HB.out.2.2 hl).mono ?_; rintro e w1 ⟨rfl, rfl⟩)
  go_ret
  exact ⟨rfl, HB.out.1⟩
end Go.Proofs.YtpnakfeafekneaaGreatDoor

namespace Go.Proofs.YtpnakfeafekneaaGreatDoor
open Go.RowKit
abbrev findFn : Value := .func (Fn.func 144) #[] #[]
def fnd (ps : List Pr) (i : Nat) (key : List UInt8) : Bool := match ps[i]? with | some p => Lx.cmp p.key key == 0 | none => false
set_option maxRecDepth 100000 in
theorem bsearch_any [Inhabited LoT] (A Ak : Option Addr) (c ck : Nat) (L : List (List Value)) (ps : List Pr) (key : List UInt8) (w : World) (hA : Rd w A L.flatten) (hP : PairsAt w L ps) (hk : Rd w Ak (key.map b8)) (hn : ps.length < 1099511627776) (hkl : ∀ p ∈ ps, p.key.length < 1099511627776)
    (hmono : ∀ (i j : Nat) (p q : Pr), i < j → ps[i]? = some p → ps[j]? = some q → Lx.cmp q.key key < 0 → Lx.cmp p.key key < 0) :
    Calls Tryz.prog 143 #[.slice A ps.length c, .slice Ak key.length ck, findFn] w fun e w' => ∃ (i : Nat), e = .returned (.tuple #[.int .i64 i, .bool (fnd ps i key)]) ∧ Below w.heap.size w w' ∧ i ≤ ps.length ∧
      (∀ (j : Nat) (p : Pr), j < i → ps[j]? = some p → Lx.cmp p.key key < 0) ∧ (∀ (j : Nat) (p : Pr), i ≤ j → ps[j]? = some p → ¬ Lx.cmp p.key key < 0) := by
  have HA := hid (And.intro hA (And.intro hP (And.intro hk (And.intro hkl hmono))))
  clear hA hP hk hkl hmono
  go_enter Tryz.func143, Tryz.ntmps143
  go_wp2_with fail
  go_loopg [9, 10] ps.length (fun g s9 s10 wr => ∃ i j : Nat, j - i = g ∧ i ≤ j ∧ j ≤ ps.length ∧ s9 = .int .i64 i ∧ s10 = .int .i64 j ∧ Below w.heap.size w wr ∧ (∀ (t : Nat) (p : Pr), t < i → ps[t]? = some p → Lx.cmp p.key key < 0) ∧ (∀ (t : Nat) (p : Pr), j ≤ t → ps[t]? = some p → ¬ Lx.cmp p.key key < 0))
  case atStart => exact ⟨0, ps.length, by omega, by omega, by omega, rfl, rfl, Below.refl _ _, fun t p h => by omega, fun t p h h2 => by rw [List.getElem?_eq_none h] at h2; cases h2⟩
  case round =>
    obtain ⟨i, j, hg, hij, hjn, rfl, rfl, hb, hlo, hhi⟩ := hrel
    have HI := hid (And.intro hb (And.intro hlo hhi))
    clear hb hlo hhi
    by_cases hlt : i < j
    · obtain ⟨h, hh⟩ : ∃ h, h = (i + j) / 2 := ⟨_, rfl⟩
      have hmid : ((i : Int) + (j : Int)) / 2 = (h : Int) := by omega
      have hhl : h < ps.length := by omega
      have hhj : i ≤ h ∧ h < j := by omega
      obtain ⟨k, v, hq⟩ : ∃ k v, ps[h]? = some ⟨k, v⟩ := ⟨ps[h].key, ps[h].val, by simp [hhl]⟩
      have hL := HA.out.2.1.len
      have hjl : h < L.length := by omega
      obtain ⟨g, o, rfl, hr⟩ := HA.out.1 (by
        intro e
        have := flatten_len 2 _ HA.out.2.1.two
        rw [e] at this
        simp at this; omega)
      have hp := range_part hr HA.out.2.1.two h hjl
      obtain ⟨A1, c1, A2, c2, hx, hr1, hr2, hc1, hc2, -⟩ := HA.out.2.1.at_ h L[h] ⟨k, v⟩ (by simp [hjl]) hq
      rw [hx] at hp
      simp only [] at hp hr1 hr2
      have hlb := range_lt hp (by simp)
      have hp2 := range_below hp HI.out.1 hlb
      have hkl2 := HA.out.2.2.2.1 ⟨k, v⟩ (by rw [← (List.getElem?_eq_some_iff.1 hq).2]; exact List.getElem_mem _)
      have hcall := find1_any A1 A2 Ak k key c1 v.length c2 ck wr (hr1.grown HI.out.1) (HA.out.2.2.1.grown HI.out.1) hkl2
      have HC := hid (And.intro hcall (And.intro hq hh))
      clear hcall hq hr hp hx hr1 hr2 hc1 hc2 hL hkl2 hh
      by_cases hneg : Lx.cmp k key < 0
      · go_wp2_with (first
          | ((with_reducible refine ld_mid 166 (.tmp 27) g (o + h * 2) _ 2 _ rfl hp2 Tryz.underlying166 rfl (by kernel_rfl) ?_ ?_ ?_ ?_); rfl; rfl; rfl)
          | (go_at_call 144; refine HC.out.1.mono ?_; rintro e w2 ⟨rfl, hb2⟩; have HB := hid hb2; clear hb2))
        go_roundg (j - (h + 1))
        case measure => omega
        case rel =>
          refine ⟨h + 1, j, rfl, by omega, hjn, by go_num, rfl, HI.out.1.trans (HB.out.mono HI.out.1.size), ?_, HI.out.2.2⟩
          intro t p ht hpt
          rcases Nat.lt_or_ge t h with h9 | h9
          · exact HA.out.2.2.2.2 t h p ⟨k, v⟩ h9 hpt HC.out.2.1 hneg
          · obtain rfl : t = h := by omega
            rw [HC.out.2.1] at hpt; cases hpt; exact hneg
      · go_wp2_with (first
          | ((with_reducible refine ld_mid 166 (.tmp 27) g (o + h * 2) _ 2 _ rfl hp2 Tryz.underlying166 rfl (by kernel_rfl) ?_ ?_ ?_ ?_); rfl; rfl; rfl)
          | (go_at_call 144; refine HC.out.1.mono ?_; rintro e w2 ⟨rfl, hb2⟩; have HB := hid hb2; clear hb2))
        go_roundg (h - i)
        case measure => omega
        case rel =>
          refine ⟨i, h, rfl, hhj.1, by omega, rfl, rfl, HI.out.1.trans (HB.out.mono HI.out.1.size), HI.out.2.1, ?_⟩
          intro t p ht hpt
          refine Int.not_lt.1 fun hc => ?_
          rcases Nat.lt_or_ge h t with h9 | h9
          · have := HA.out.2.2.2.2 h t ⟨k, v⟩ p h9 HC.out.2.1 hpt hc; simp only [] at this; omega
          · obtain rfl : t = h := by omega
            rw [HC.out.2.1] at hpt; cases hpt; simp only [] at hc; omega
    · obtain rfl : i = j := by omega
      by_cases hin : i < ps.length
      · obtain ⟨k, v, hq⟩ : ∃ k v, ps[i]? = some ⟨k, v⟩ := ⟨ps[i].key, ps[i].val, by simp [hin]⟩
        have hL := HA.out.2.1.len
        have hjl : i < L.length := by omega
        obtain ⟨g, o, rfl, hr⟩ := HA.out.1 (by
          intro e
          have := flatten_len 2 _ HA.out.2.1.two
          rw [e] at this
          simp at this; omega)
        have hp := range_part hr HA.out.2.1.two i hjl
        obtain ⟨A1, c1, A2, c2, hx, hr1, hr2, hc1, hc2, -⟩ := HA.out.2.1.at_ i L[i] ⟨k, v⟩ (by simp [hjl]) hq
        rw [hx] at hp
        simp only [] at hp hr1 hr2
        have hlb := range_lt hp (by simp)
        have hp2 := range_below hp HI.out.1 hlb
        have hkl2 := HA.out.2.2.2.1 ⟨k, v⟩ (by rw [← (List.getElem?_eq_some_iff.1 hq).2]; exact List.getElem_mem _)
        have hcall := find1_any A1 A2 Ak k key c1 v.length c2 ck wr (hr1.grown HI.out.1) (HA.out.2.2.1.grown HI.out.1) hkl2
        have HC := hid (And.intro hcall hq)
        clear hcall hq hr hp hx hr1 hr2 hc1 hc2 hL hkl2
        have d0 : wr.cell? ⟨g, o + i * 2, none⟩ = some (.slice A1 k.length c1) := hp2 0 _ rfl
        have d1 : wr.cell? ⟨g, o + i * 2 + 1, none⟩ = some (.slice A2 v.length c2) := hp2 1 _ rfl
        go_wp2_with (first
          | ((with_reducible refine ld_mid 166 (.tmp 43) g (o + i * 2) _ 2 _ rfl hp2 Tryz.underlying166 rfl (by kernel_rfl) ?_ ?_ ?_ ?_); rfl; rfl; rfl)
          | (go_at_call 144; refine HC.out.1.mono ?_; rintro e w2 ⟨rfl, hb2⟩; have HB := hid hb2; clear hb2))
        go_ret2
        refine ⟨i, ?_, HI.out.1.trans (HB.out.mono HI.out.1.size), hjn, HI.out.2.1, fun t p h1 h2 => ?_⟩
        · unfold fnd; rw [HC.out.2]; rfl
        · exact HI.out.2.2 t p h1 h2
      · go_wp2_with fail
        go_ret2
        refine ⟨i, ?_, HI.out.1, hjn, HI.out.2.1, fun t p h1 h2 => ?_⟩
        · unfold fnd; rw [List.getElem?_eq_none (by omega)]; rfl
        · exact HI.out.2.2 t p h1 h2
end Go.Proofs.YtpnakfeafekneaaGreatDoor

namespace Go.Proofs.YtpnakfeafekneaaGreatDoor
open Go.RowKit
theorem find_any [Inhabited LoT] (A Ak : Option Addr) (c ck : Nat) (L : List (List Value)) (ps : List Pr) (key : List UInt8) (w : World) (hA : Rd w A L.flatten) (hP : PairsAt w L ps) (hk : Rd w Ak (key.map b8)) (hn : ps.length < 1099511627776) (hkl : ∀ p ∈ ps, p.key.length < 1099511627776)
    (hmono : ∀ (i j : Nat) (p q : Pr), i < j → ps[i]? = some p → ps[j]? = some q → Lx.cmp q.key key < 0 → Lx.cmp p.key key < 0) :
    Calls Tryz.prog 94 #[.slice A ps.length c, .slice Ak key.length ck] w fun e w' => ∃ (i : Nat), e = .returned (.tuple #[.int .i64 i, .bool (fnd ps i key)]) ∧ Below w.heap.size w w' ∧ i ≤ ps.length ∧
      (∀ (j : Nat) (p : Pr), j < i → ps[j]? = some p → Lx.cmp p.key key < 0) ∧ (∀ (j : Nat) (p : Pr), i ≤ j → ps[j]? = some p → ¬ Lx.cmp p.key key < 0) := by
  have HC := hid (bsearch_any A Ak c ck L ps key w hA hP hk hn hkl hmono)
  clear hA hP hk hkl hmono
  go_enter Tryz.func94, Tryz.ntmps94
  go_wp2_with (go_at_call 143; refine HC.out.mono ?_; rintro e w1 ⟨i, rfl, hb, h1, h2, h3⟩; have HB := hid (And.intro hb (And.intro h1 (And.intro h2 h3))); clear hb h1 h2 h3)
  go_ret2
  exact ⟨i, rfl, HB.out⟩
end Go.Proofs.YtpnakfeafekneaaGreatDoor

namespace Go.Proofs.YtpnakfeafekneaaGreatDoor
open Go.RowKit
namespace Lx
theorem cmpB_self (x : UInt8) : cmpB x x = 0 := by unfold cmpB; simp
theorem cmpB_eq {x y : UInt8} (h : cmpB x y = 0) : x = y := by
  unfold cmpB at h
  split at h
  · cases h
  · split at h
    · cases h
    · rename_i h1 h2
      exact UInt8.le_antisymm (UInt8.not_lt.1 h2) (UInt8.not_lt.1 h1)
theorem cmpB_neg (x y : UInt8) : cmpB x y = - cmpB y x := by
  unfold cmpB
  by_cases h1 : x < y
  · rw [if_pos h1, if_neg (fun h => by have := UInt8.lt_irrefl x; exact this (UInt8.lt_trans h1 h)), if_pos h1]
  · by_cases h2 : y < x
    · rw [if_neg h1, if_pos h2, if_pos h2]; rfl
    · rw [if_neg h1, if_neg h2, if_neg h2, if_neg h1]; rfl
theorem cmpB_lt {x y : UInt8} : cmpB x y < 0 ↔ x < y := by
  unfold cmpB
  by_cases h1 : x < y
  · simp [h1]
  · by_cases h2 : y < x
    · simp [h1, h2]
    · simp [h1, h2]
theorem cmp_self : ∀ l : List UInt8, cmp l l = 0
  | [] => rfl
  | x :: l => by rw [cmp, cmpB_self]; simp [cmp_self l]
theorem cmp_eq : ∀ {a b : List UInt8}, cmp a b = 0 → a = b
  | [], [], _ => rfl
  | [], _ :: _, h => by simp [cmp] at h
  | _ :: _, [], h => by simp [cmp] at h
  | x :: a, y :: b, h => by
    rw [cmp] at h
    split at h
    · rename_i h1; exact absurd h h1
    · rename_i h1
      have e1 : cmpB x y = 0 := by simpa using h1
      rw [cmpB_eq e1, cmp_eq h]
theorem cmp_neg : ∀ (a b : List UInt8), cmp a b = - cmp b a
  | [], [] => rfl
  | [], _ :: _ => rfl
  | _ :: _, [] => rfl
  | x :: a, y :: b => by
    rw [cmp, cmp, cmpB_neg x y, cmp_neg a b]
    by_cases h : cmpB y x = 0
    · rw [h]; simp
    · rw [if_pos (by omega), if_pos h]
theorem cmp_trans : ∀ {a b c : List UInt8}, cmp a b < 0 → cmp b c < 0 → cmp a c < 0
  | [], [], _, h, _ => by simp [cmp] at h
  | [], _ :: _, [], _, h => by simp [cmp] at h
  | [], _ :: _, _ :: _, _, _ => by simp [cmp]
  | _ :: _, [], _, h, _ => by simp [cmp] at h
  | _ :: _, _ :: _, [], _, h => by simp [cmp] at h
  | x :: a, y :: b, z :: c, h1, h2 => by
    rw [cmp] at h1 h2 ⊢
    by_cases e1 : cmpB x y = 0
    · have := cmpB_eq e1; subst this
      rw [e1] at h1
      by_cases e2 : cmpB x z = 0
      · rw [e2] at h2 ⊢; simp at h1 h2 ⊢; exact cmp_trans h1 h2
      · rw [if_pos e2] at h2 ⊢; exact h2
    · rw [if_pos e1] at h1
      have g1 := cmpB_lt.1 h1
      by_cases e2 : cmpB y z = 0
      · have := cmpB_eq e2; subst this
        rw [if_pos e1]; exact h1
      · rw [if_pos e2] at h2
        have g3 : cmpB x z < 0 := cmpB_lt.2 (UInt8.lt_trans g1 (cmpB_lt.1 h2))
        rw [if_pos (by omega)]; exact g3
end Lx
namespace Hm
def bmf (P : Nat → Bool) (k : Nat) : Nat := (List.range k).foldl (fun a i => if P i then Nib.add a i else a) 0
theorem bmf_succ (P : Nat → Bool) (k : Nat) : bmf P (k + 1) = if P k then Nib.add (bmf P k) k else bmf P k := by
  unfold bmf; rw [List.range_succ, List.foldl_append]; rfl
theorem bmf_bit (P : Nat → Bool) (j : Nat) : ∀ k, (bmf P k).testBit j = (decide (j < k) && P j)
  | 0 => by simp [bmf]
  | k + 1 => by
    rw [bmf_succ]
    have ih := bmf_bit P j k
    by_cases hj : j = k
    · subst hj
      by_cases hP : P j = true
      · rw [if_pos hP]; unfold Nib.add; rw [Nat.testBit_or, ih, Nat.testBit_two_pow]; simp [hP]
      · rw [if_neg hP, ih]; simp at hP; simp [hP]
    · have e : decide (j < k + 1) = decide (j < k) := by
        rw [Bool.eq_iff_iff]; simp; omega
      rw [e, ← ih]
      split
      · unfold Nib.add; rw [Nat.testBit_or, Nat.testBit_two_pow]
        have : decide (k = j) = false := by simp; omega
        rw [this, Bool.or_false]
      · rfl
theorem bmf_lt (P : Nat → Bool) : bmf P 16 < 65536 := by
  have h : ∀ k, k ≤ 16 → bmf P k < 65536 := by
    intro k
    induction k with
    | zero => intro _; simp [bmf]
    | succ k ih =>
      intro hk
      rw [bmf_succ]
      split
      · exact Nib.add_lt _ _ (ih (by omega)) (by omega)
      · exact ih (by omega)
  exact h 16 (Nat.le_refl _)
theorem bmf_has (P : Nat → Bool) (i : Nat) (hi : i < 16) : Nib.has (bmf P 16) i = P i := by
  unfold Nib.has; rw [bmf_bit]; simp [hi]
theorem bmf_congr {P Q : Nat → Bool} (h : ∀ i, i < 16 → P i = Q i) : bmf P 16 = bmf Q 16 := by
  apply Nat.eq_of_testBit_eq
  intro i
  rw [bmf_bit, bmf_bit]
  by_cases hi : i < 16
  · rw [h i hi]
  · simp [hi]
theorem bmf_add (P : Nat → Bool) (d : Nat) (hd : d < 16) : Nib.add (bmf P 16) d = bmf (fun i => P i || i == d) 16 := by
  apply Nat.eq_of_testBit_eq
  intro i
  unfold Nib.add
  rw [Nat.testBit_or, bmf_bit, bmf_bit, Nat.testBit_two_pow]
  by_cases hi : i < 16
  · by_cases hid : d = i
    · subst hid; simp [hd]
    · have : (i == d) = false := by simp; omega
      simp [hid, this]
  · have : d ≠ i := by omega
    simp [hi, this]
theorem bmf_del (P : Nat → Bool) (d : Nat) (hd : d < 16) : Nib.del (bmf P 16) d = bmf (fun i => P i && !(i == d)) 16 := by
  apply Nat.eq_of_testBit_eq
  intro i
  unfold Nib.del
  have h2 : 2 ^ d < 2 ^ 16 := Nat.pow_lt_pow_right (by decide) hd
  rw [Nat.testBit_and, bmf_bit, bmf_bit, show 65535 - 2 ^ d = 2 ^ 16 - (2 ^ d + 1) by omega, Nat.testBit_two_pow_sub_succ h2, Nat.testBit_two_pow]
  by_cases hi : i < 16
  · by_cases hid : d = i
    · subst hid; simp
    · have : (i == d) = false := by simp; omega
      simp [hi, hid, this]
  · simp [hi]
theorem ite_mod (x : Nat) : (if decide (x % 2 = 1) = true then 1 else 0) = x % 2 := by
  by_cases h : x % 2 = 1
  · simp [h]
  · simp [h]; omega
theorem pop_count (m : Nat) (hm : m < 65536) : Nib.pop m = ((List.range 16).filter fun i => m.testBit i).length := by
  have a0 : m % 256 % 2 = m % 2 := by omega
  have a1 : m % 256 / 2 % 2 = m / 2 % 2 := by omega
  have a2 : m % 256 / 4 % 2 = m / 4 % 2 := by omega
  have a3 : m % 256 / 8 % 2 = m / 8 % 2 := by omega
  have a4 : m % 256 / 16 % 2 = m / 16 % 2 := by omega
  have a5 : m % 256 / 32 % 2 = m / 32 % 2 := by omega
  have a6 : m % 256 / 64 % 2 = m / 64 % 2 := by omega
  have a7 : m % 256 / 128 % 2 = m / 128 % 2 := by omega
  rw [← List.countP_eq_length_filter, show List.range 16 = [0, 1, 2, 3, 4, 5, 6, 7, 8, 9, 10, 11, 12, 13, 14, 15] from rfl]
  simp only [List.countP_cons, List.countP_nil, Nat.testBit_eq_decide_div_mod_eq, ite_mod]
  unfold Nib.pop Nib.pop8
  rw [a0, a1, a2, a3, a4, a5, a6, a7]
  clear a0 a1 a2 a3 a4 a5 a6 a7
  simp only [Nat.div_div_eq_div_mul, Nat.reducePow, Nat.reduceMul, Nat.div_one, Nat.zero_add]
  ac_rfl
theorem bmf_pop (P : Nat → Bool) : Nib.pop (bmf P 16) = ((List.range 16).filter P).length := by
  rw [pop_count _ (bmf_lt P)]
  congr 1
  apply List.filter_congr
  intro i hi
  rw [bmf_bit]; simp at hi; simp [hi]
def lo (P : Nat → Bool) (d : Nat) : List Nat := (List.range d).filter P
def hi (P : Nat → Bool) (d : Nat) : List Nat := ((List.range (15 - d)).map (d + 1 + ·)).filter P
theorem digs_split (P : Nat → Bool) (d : Nat) (hd : d < 16) : (List.range 16).filter P = lo P d ++ ((if P d then [d] else []) ++ hi P d) := by
  have e : List.range 16 = List.range d ++ ([d] ++ (List.range (15 - d)).map (d + 1 + ·)) := by
    rw [← List.append_assoc, ← List.range_succ, ← List.range_add]; congr 1; omega
  rw [e, List.filter_append, List.filter_append]
  unfold lo hi
  congr 2
  by_cases h : P d <;> simp [h]
theorem mem_lo {P : Nat → Bool} {d i : Nat} (h : i ∈ lo P d) : i < d ∧ P i = true := by simpa [lo] using h
theorem mem_hi {P : Nat → Bool} {d i : Nat} (h : i ∈ hi P d) : d < i ∧ P i = true := by
  unfold hi at h
  rw [List.mem_filter, List.mem_map] at h
  obtain ⟨⟨a, _, rfl⟩, h2⟩ := h
  exact ⟨by omega, h2⟩
theorem lo_congr {P Q : Nat → Bool} {d : Nat} (h : ∀ i, i ≠ d → P i = Q i) : lo P d = lo Q d := by
  apply List.filter_congr
  intro i hi
  exact h i (by have := List.mem_range.1 hi; omega)
theorem hi_congr {P Q : Nat → Bool} {d : Nat} (h : ∀ i, i ≠ d → P i = Q i) : hi P d = hi Q d := by
  apply List.filter_congr
  intro i hi
  obtain ⟨a, _, rfl⟩ := List.mem_map.1 hi
  exact h _ (by omega)
theorem bmf_rank (P : Nat → Bool) (d : Nat) (hd : d < 16) : Nib.rank (bmf P 16) d = (lo P d).length := by
  unfold Nib.rank
  have h := bmf_lt P
  have hl : bmf P 16 % 2 ^ d < 65536 := Nat.lt_of_le_of_lt (Nat.mod_le _ _) h
  rw [pop_count _ hl, digs_split _ d hd]
  have e1 : lo (fun i => (bmf P 16 % 2 ^ d).testBit i) d = lo P d := by
    apply List.filter_congr
    intro i hi
    have := List.mem_range.1 hi
    rw [Nat.testBit_mod_two_pow, bmf_bit]
    have h2 : i < 16 := by omega
    simp [this, h2]
  have e2 : hi (fun i => (bmf P 16 % 2 ^ d).testBit i) d = [] := by
    unfold hi
    rw [List.filter_eq_nil_iff]
    intro i hi
    obtain ⟨a, _, rfl⟩ := List.mem_map.1 hi
    rw [Nat.testBit_mod_two_pow]
    simp
    intro h; omega
  have e3 : (bmf P 16 % 2 ^ d).testBit d = false := by rw [Nat.testBit_mod_two_pow]; simp
  rw [e1, e2, e3]; simp
theorem bmf_ne {P : Nat → Bool} {i : Nat} (hi : i < 16) (h : P i = true) : bmf P 16 ≠ 0 := by
  intro e
  have := bmf_has P i hi
  rw [e, h] at this
  simp [Nib.has] at this
theorem digs_le (P : Nat → Bool) : ((List.range 16).filter P).length ≤ 16 := by
  have := List.length_filter_le P (List.range 16)
  simpa using this
def cmp (n : Nat) (p q : Pr) : Int := if Lx.cmp (Dg.key n p.key) (Dg.key n q.key) ≠ 0 then Lx.cmp (Dg.key n p.key) (Dg.key n q.key) else Lx.cmp p.key q.key
theorem cmp_of_eq {n : Nat} {p q : Pr} (h : Dg.key n p.key = Dg.key n q.key) : cmp n p q = Lx.cmp p.key q.key := by
  unfold cmp; rw [h, Lx.cmp_self]; simp
theorem cmp_key {n : Nat} {p q : Pr} (h : cmp n p q = 0) : p.key = q.key := by
  unfold cmp at h
  split at h
  · rename_i h1; exact absurd h h1
  · exact Lx.cmp_eq h
theorem cmp_same {n : Nat} {p q : Pr} (h : p.key = q.key) : cmp n p q = 0 := by unfold cmp; rw [h, Lx.cmp_self, Lx.cmp_self]; simp
theorem cmp_neg (n : Nat) (p q : Pr) : cmp n p q = - cmp n q p := by
  unfold cmp
  rw [Lx.cmp_neg (Dg.key n p.key), Lx.cmp_neg p.key]
  by_cases h : Lx.cmp (Dg.key n q.key) (Dg.key n p.key) = 0
  · rw [h]; simp
  · rw [if_pos (by omega), if_pos h]
theorem cmp_trans {n : Nat} {p q r : Pr} (h1 : cmp n p q < 0) (h2 : cmp n q r < 0) : cmp n p r < 0 := by
  unfold cmp at h1 h2 ⊢
  by_cases e1 : Lx.cmp (Dg.key n p.key) (Dg.key n q.key) = 0
  · have e1' := Lx.cmp_eq e1
    rw [e1] at h1
    rw [e1']
    by_cases e2 : Lx.cmp (Dg.key n q.key) (Dg.key n r.key) = 0
    · rw [e2] at h2 ⊢; simp at h1 h2 ⊢; exact Lx.cmp_trans h1 h2
    · rw [if_pos e2] at h2 ⊢; exact h2
  · rw [if_pos e1] at h1
    by_cases e2 : Lx.cmp (Dg.key n q.key) (Dg.key n r.key) = 0
    · rw [← Lx.cmp_eq e2, if_pos e1]; exact h1
    · rw [if_pos e2] at h2
      have := Lx.cmp_trans h1 h2
      rw [if_pos (by omega)]; exact this
def Srt (n : Nat) (m : List Pr) : Prop := m.Pairwise fun p q => cmp n p q < 0
def ins (n : Nat) (x : Pr) (m : List Pr) : List Pr := m.filter (fun p => decide (cmp n p x < 0)) ++ x :: m.filter (fun p => decide (0 < cmp n p x))
def del (k : List UInt8) (m : List Pr) : List Pr := m.filter fun p => !(p.key == k)
def single (n : Nat) : List Pr → Bool
  | [] => true
  | p :: r => r.all fun q => Dg.key n q.key == Dg.key n p.key
def dig (n t : Nat) (p : Pr) : Nat := Dg.digit (Dg.key n p.key) t
def child (n t i : Nat) (m : List Pr) : List Pr := m.filter fun p => dig n t p == i
def has (n t : Nat) (m : List Pr) (i : Nat) : Bool := m.any fun p => dig n t p == i
def digs (n t : Nat) (m : List Pr) : List Nat := (List.range 16).filter (has n t m)
def bm (n t : Nat) (m : List Pr) : Nat := bmf (has n t m) 16
def node (n : Nat) : Nat → Nat → List Pr → List UInt8
  | 0, _, m => Dg.bucket n m
  | f + 1, t, m => if single n m then Dg.bucket n m else Dg.branch n (bm n t m) ((digs n t m).map fun i => node n f (t + 1) (child n t i m))
def root (n : Nat) (m : List Pr) : List UInt8 := if m.isEmpty then Dg.noMap n else node n (2 * n) 0 m
theorem node_single {n : Nat} {m : List Pr} (h : single n m = true) : ∀ f t, node n f t m = Dg.bucket n m
  | 0, _ => rfl
  | f + 1, t => by rw [node, if_pos h]
theorem dig_lt (n t : Nat) (p : Pr) : dig n t p < 16 := Dg.digit_lt _ _
theorem single_iff {n : Nat} {m : List Pr} : single n m = true ↔ ∀ p ∈ m, ∀ q ∈ m, Dg.key n p.key = Dg.key n q.key := by
  cases m with
  | nil => simp [single]
  | cons a r =>
    simp only [single, List.all_eq_true, beq_iff_eq]
    constructor
    · intro h p hp q hq
      have g : ∀ p ∈ a :: r, Dg.key n p.key = Dg.key n a.key := by
        intro p hp
        rcases List.mem_cons.1 hp with rfl | hp
        · rfl
        · exact h p hp
      rw [g p hp, g q hq]
    · intro h q hq
      exact h q (by simp [hq]) a (by simp)
theorem has_iff {n t : Nat} {m : List Pr} {i : Nat} : has n t m i = true ↔ ∃ p ∈ m, dig n t p = i := by simp [has]
theorem mem_digs {n t : Nat} {m : List Pr} {i : Nat} : i ∈ digs n t m ↔ ∃ p ∈ m, dig n t p = i := by
  unfold digs
  rw [List.mem_filter, has_iff, List.mem_range]
  constructor
  · exact fun h => h.2
  · rintro ⟨p, hp, rfl⟩; exact ⟨dig_lt _ _ _, p, hp, rfl⟩
theorem child_ne {n t : Nat} {m : List Pr} {i : Nat} (h : i ∈ digs n t m) : child n t i m ≠ [] := by
  obtain ⟨p, hp, hd⟩ := mem_digs.1 h
  intro e
  have : p ∈ child n t i m := by simp [child, hp, hd]
  rw [e] at this; cases this
theorem mem_child {n t i : Nat} {m : List Pr} {p : Pr} : p ∈ child n t i m ↔ p ∈ m ∧ dig n t p = i := by simp [child]
theorem Srt.filter {n : Nat} {m : List Pr} (h : Srt n m) (f : Pr → Bool) : Srt n (m.filter f) := List.Pairwise.filter f h
theorem Srt.child {n t i : Nat} {m : List Pr} (h : Srt n m) : Srt n (child n t i m) := h.filter _
theorem filter_sides {n : Nat} {x : Pr} : ∀ {m : List Pr}, Srt n m → (∀ p ∈ m, cmp n p x ≠ 0) → m.filter (fun p => decide (cmp n p x < 0)) ++ m.filter (fun p => decide (0 < cmp n p x)) = m
  | [], _, _ => rfl
  | p :: r, hs, hn => by
    have hs' := List.pairwise_cons.1 hs
    have hp := hn p (by simp)
    rcases Int.lt_or_gt_of_ne hp with h | h
    · have h2 : ¬ 0 < cmp n p x := by omega
      rw [List.filter_cons, List.filter_cons, if_pos (by simpa using h), if_neg (by simpa using h2), List.cons_append, filter_sides hs'.2 (fun q hq => hn q (by simp [hq]))]
    · have g : ∀ q ∈ r, 0 < cmp n q x := by
        intro q hq
        have h1 : cmp n x p < 0 := by rw [cmp_neg]; omega
        have := cmp_trans h1 (hs'.1 q hq)
        rw [cmp_neg] at this; omega
      have e1 : (p :: r).filter (fun p => decide (cmp n p x < 0)) = [] := by
        rw [List.filter_eq_nil_iff]
        intro q hq
        rcases List.mem_cons.1 hq with rfl | hq
        · simp; omega
        · have := g q hq; simp; omega
      have e2 : (p :: r).filter (fun p => decide (0 < cmp n p x)) = p :: r := by
        rw [List.filter_eq_self]
        intro q hq
        rcases List.mem_cons.1 hq with rfl | hq
        · simpa using h
        · simpa using g q hq
      rw [e1, e2]; rfl
theorem filter_child (n t i : Nat) (m : List Pr) (f : Pr → Bool) : child n t i (m.filter f) = (child n t i m).filter f := by
  unfold child
  rw [List.filter_filter, List.filter_filter]
  apply List.filter_congr
  intro p _
  rw [Bool.and_comm]
theorem child_ins {n t i : Nat} {x : Pr} {m : List Pr} (hs : Srt n m) : child n t i (ins n x m) = if dig n t x = i then ins n x (child n t i m) else child n t i m := by
  unfold ins
  have e : child n t i (m.filter (fun p => decide (cmp n p x < 0)) ++ x :: m.filter (fun p => decide (0 < cmp n p x))) = (child n t i m).filter (fun p => decide (cmp n p x < 0)) ++ ((if dig n t x = i then [x] else []) ++ (child n t i m).filter (fun p => decide (0 < cmp n p x))) := by
    rw [← filter_child, ← filter_child]
    unfold child
    rw [List.filter_append, List.filter_cons]
    by_cases h : dig n t x = i
    · simp [h]
    · simp [h]
  rw [e]
  by_cases h : dig n t x = i
  · rw [if_pos h, if_pos h]; rfl
  · rw [if_neg h, if_neg h, List.nil_append]
    refine filter_sides hs.child ?_
    intro p hp e0
    have h1 := (mem_child.1 hp).2
    have h2 := cmp_key e0
    apply h
    unfold dig at h1 ⊢
    rw [← h2]; exact h1
theorem child_del {n t i : Nat} {k : List UInt8} {m : List Pr} : child n t i (del k m) = del k (child n t i m) := filter_child _ _ _ _ _
theorem mem_ins {n : Nat} {x p : Pr} {m : List Pr} (h : p ∈ ins n x m) : p = x ∨ p ∈ m := by
  unfold ins at h
  simp at h
  rcases h with h | h | h
  · exact .inr h.1
  · exact .inl h
  · exact .inr h.1
theorem x_mem_ins (n : Nat) (x : Pr) (m : List Pr) : x ∈ ins n x m := by simp [ins]
theorem ins_srt {n : Nat} {x : Pr} {m : List Pr} (hs : Srt n m) : Srt n (ins n x m) := by
  unfold ins Srt
  rw [List.pairwise_append]
  refine ⟨hs.filter _, List.pairwise_cons.2 ⟨?_, hs.filter _⟩, ?_⟩
  · intro q hq
    have := (List.mem_filter.1 hq).2
    simp at this
    rw [cmp_neg]; omega
  · intro p hp q hq
    have h1 := (List.mem_filter.1 hp).2
    simp at h1
    rcases List.mem_cons.1 hq with rfl | hq
    · exact h1
    · have h2 := (List.mem_filter.1 hq).2
      simp at h2
      exact cmp_trans h1 (by rw [cmp_neg]; omega)
theorem del_srt {n : Nat} {k : List UInt8} {m : List Pr} (hs : Srt n m) : Srt n (del k m) := hs.filter _
theorem ins_keep {n : Nat} {x p : Pr} {m : List Pr} (h : p ∈ m) (hk : p.key ≠ x.key) : p ∈ ins n x m := by
  unfold ins
  have h0 : cmp n p x ≠ 0 := fun e => hk (cmp_key e)
  rcases Int.lt_or_gt_of_ne h0 with g | g
  · simp [h, g]
  · simp [h, g]
theorem has_ins {n t : Nat} {x : Pr} {m : List Pr} (i : Nat) : has n t (ins n x m) i = (has n t m i || i == dig n t x) := by
  rw [Bool.eq_iff_iff, Bool.or_eq_true, has_iff, has_iff, beq_iff_eq]
  constructor
  · rintro ⟨p, hp, rfl⟩
    rcases mem_ins hp with rfl | hp
    · exact .inr rfl
    · exact .inl ⟨p, hp, rfl⟩
  · rintro (⟨p, hp, rfl⟩ | rfl)
    · by_cases hk : p.key = x.key
      · refine ⟨x, x_mem_ins _ _ _, ?_⟩
        unfold dig; rw [hk]
      · exact ⟨p, ins_keep hp hk, rfl⟩
    · exact ⟨x, x_mem_ins _ _ _, rfl⟩
theorem bm_ins {n t : Nat} {x : Pr} {m : List Pr} : bm n t (ins n x m) = Nib.add (bm n t m) (dig n t x) := by
  unfold bm
  rw [bmf_add _ _ (dig_lt _ _ _)]
  exact bmf_congr fun i _ => has_ins i
theorem ins_of_sides {n : Nat} {x : Pr} {A B C : List Pr} (hA : ∀ p ∈ A, cmp n p x < 0) (hB : ∀ p ∈ B, cmp n p x = 0) (hC : ∀ p ∈ C, 0 < cmp n p x) : ins n x (A ++ (B ++ C)) = A ++ x :: C := by
  unfold ins
  simp only [List.filter_append]
  rw [(List.filter_eq_self (l := A)).2 (fun p hp => by simpa using hA p hp), (List.filter_eq_nil_iff (l := B)).2 (fun p hp => by have := hB p hp; simp; omega), (List.filter_eq_nil_iff (l := C)).2 (fun p hp => by have := hC p hp; simp; omega),
    (List.filter_eq_nil_iff (l := A)).2 (fun p hp => by have := hA p hp; simp; omega), (List.filter_eq_nil_iff (l := B)).2 (fun p hp => by have := hB p hp; simp; omega), (List.filter_eq_self (l := C)).2 (fun p hp => by simpa using hC p hp)]
  simp
theorem ins_nil (n : Nat) (x : Pr) : ins n x [] = [x] := rfl
theorem single_ins {n : Nat} {x : Pr} {m : List Pr} : single n (ins n x m) = true ↔ (single n m = true ∧ ∀ p ∈ m, Dg.key n p.key = Dg.key n x.key) := by
  constructor
  · intro h
    have h' := single_iff.1 h
    have g : ∀ p ∈ m, Dg.key n p.key = Dg.key n x.key := by
      intro p hp
      by_cases hk : p.key = x.key
      · rw [hk]
      · exact h' p (ins_keep hp hk) x (x_mem_ins _ _ _)
    exact ⟨single_iff.2 fun p hp q hq => (g p hp).trans (g q hq).symm, g⟩
  · rintro ⟨_, g⟩
    refine single_iff.2 fun p hp q hq => ?_
    have e : ∀ p ∈ ins n x m, Dg.key n p.key = Dg.key n x.key := by
      intro p hp
      rcases mem_ins hp with rfl | hp
      · rfl
      · exact g p hp
    rw [e p hp, e q hq]
end Hm
end Go.Proofs.YtpnakfeafekneaaGreatDoor
