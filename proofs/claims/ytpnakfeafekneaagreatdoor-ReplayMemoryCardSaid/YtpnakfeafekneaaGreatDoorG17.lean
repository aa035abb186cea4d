/- Part 17 of this proof: T5. -/
import Derived.Test.YtpnakfeafekneaaGreatDoorG16
set_option linter.unusedSimpArgs false
set_option linter.unusedVariables false
namespace Go.Proofs.YtpnakfeafekneaaGreatDoor
open Go.RowKit
structure TreeIs (w : World) (b n : Nat) (ds : List (List UInt8)) (A : Option Addr) (c : Nat) (bs : List Nat) (ts : List MT) : Prop where
  blk : Blk w b 180 [.int .i64 n, .int .u64 ds.length, .slice A bs.length c]
  rd : Rd w A (bs.map ptr)
  cap : bs.length ≤ c
  nodes : NodesAt w bs ts
  peaks : Peaks n ts
  leaves : peakLeaves ts = ds
  fits : Fits n ds
theorem TreeAt.is {w : World} {b n : Nat} {ds : List (List UInt8)} (h : TreeAt w b n ds) : ∃ A c bs ts, TreeIs w b n ds A c bs ts := by
  obtain ⟨A, c, bs, ts, h1, h2, h3, h4, h5, h6, h7⟩ := h
  exact ⟨A, c, bs, ts, h1, h2, h3, h4.1, h5, h6, h7⟩
structure WhI (w : World) (at_ : Nat) (w' : World) : Prop where
  a : Blk w' w.heap.size 38 [.int .u64 at_]
  r : Blk w' (w.heap.size + 1) 40 (List.replicate 32 (b8 0))
  bl : Below w.heap.size w w'
theorem WhI.new (w : World) (x : Nat) : WhI w x ((w.alloc (.cells #[.int .u64 x] 38)).alloc (.cells (List.replicate 32 (b8 0)).toArray 40)) := by
  refine ⟨(Blk.new w 38 [.int .u64 x]).alloc _, ?_, ((Below.refl _ _).alloc (Nat.le_refl _) _).alloc (by simp) _⟩
  have := Blk.new (w.alloc (.cells #[.int .u64 x] 38)) 40 (List.replicate 32 (b8 0))
  rwa [show (w.alloc (.cells #[.int .u64 x] 38)).heap.size = w.heap.size + 1 by simp] at this
theorem WhI.set {w w' : World} {x : Nat} (h : WhI w x w') (y : Nat) (nq : Nat) : WhI w y ((w'.drewN nq).setCell ⟨w.heap.size, 0, none⟩ (.int .u64 y)) :=
  ⟨(h.a.drewN nq).set_ 0 _, (h.r.drewN nq).far (by simp) _, (below_drewN h.bl nq).setCell (Nat.le_refl _) _⟩
theorem WhI.drew {w w' : World} {x : Nat} (h : WhI w x w') (nq : Nat) : WhI w x (w'.drewN nq) := ⟨h.a.drewN nq, h.r.drewN nq, below_drewN h.bl nq⟩
theorem peaks_len {n : Nat} : ∀ {ts : List MT}, Peaks n ts → ts.length ≤ (peakLeaves ts).length
  | [], _ => Nat.zero_le _
  | t :: ts, h => by
    have h1 := peaks_len h.2.2
    have h2 := MT.leaves_len n t h.1
    have h3 := t.size_pos
    have : (peakLeaves (t :: ts)).length = t.leaves.length + (peakLeaves ts).length := by simp [peakLeaves]
    rw [this, List.length_cons]; omega
theorem peak_le {n : Nat} {ts : List MT} (h : Peaks n ts) (j : Nat) (hj : j < ts.length) : ts[j].size ≤ (peakLeaves ts).length := by
  have h1 := ahead_succ h j hj
  have h2 : ahead ts (j + 1) ≤ (peakLeaves ts).length := by rw [ahead_all (j + 1), List.length_append]; unfold ahead; omega
  omega
theorem stay_of_kept {w w' : World} {p : Nat} {t : TypeId} {cs : List Value} (hk : Kept (· = p) w w') (hp : Blk w p t cs) (ht : t ≠ 243) : NodesStay w w' := fun k cs' hb => by
  refine hk.blk hb ?_
  intro e
  have e' : k = p := e
  subst e'
  unfold Blk at hp hb
  rw [hp] at hb
  injection hb with hb
  injection hb with _ h2
  exact ht h2
theorem peak_part {n : Nat} {ts : List MT} (h : Peaks n ts) (j : Nat) (hj : j < ts.length) (x N : Nat) (hx : x + N ≤ ts[j].size) : (ts[j].leaves.drop x).take N = ((peakLeaves ts).drop (ahead ts j + x)).take N := by
  have hl := MT.leaves_len n _ (h.get_ok j hj)
  have e : peakLeaves ts = peakLeaves (ts.take j) ++ (ts[j].leaves ++ peakLeaves (ts.drop (j + 1))) := by
    rw [ahead_all j]
    congr 1
    rw [List.drop_eq_getElem_cons hj]; rfl
  have ha : ahead ts j = (peakLeaves (ts.take j)).length := rfl
  conv => rhs; rw [e, ha, List.drop_append, List.drop_eq_nil_of_le (by omega), List.nil_append, Nat.add_sub_cancel_left, List.drop_append_of_le_length (by omega), List.take_append_of_le_length (by simp; omega)]
theorem fit_dvd {N x y : Nat} (h1 : N ∣ x) (h2 : N ∣ y) (h : x < y) : x + N ≤ y := by
  obtain ⟨a, rfl⟩ := h1
  obtain ⟨c, rfl⟩ := h2
  have : a < c := Nat.lt_of_mul_lt_mul_left h
  have h3 : N * (a + 1) ≤ N * c := Nat.mul_le_mul_left _ this
  rwa [Nat.mul_add, Nat.mul_one] at h3
theorem WhI.kept {w w1 w2 : World} {x y : Nat} (h : WhI w x w1) (hk : Kept (· = w.heap.size) w1 w2) (ha : Blk w2 w.heap.size 38 [.int .u64 y]) : WhI w y w2 :=
  ⟨ha, hk.blk h.r (by show ¬ _ = _; omega), hk.step h.bl h.bl.size (fun k hk => by show ¬ _ = _; omega)⟩
set_option maxRecDepth 100000 in
theorem whole_any (b n lo k : Nat) (ds : List (List UInt8)) (w : World) (h : TreeAt w b n ds) (hn : n ≤ 32) (hd : 2 ^ k ∣ lo) (hl : lo + 2 ^ k ≤ ds.length) (hds : ds.length < 1099511627776) :
    Calls Tryz.prog 183 #[ptr b, .int .u64 lo, .int .u64 ((2 ^ k : Nat) : Int)] w fun e w' => e = .returned (dg (Mt.log n ((ds.drop lo).take (2 ^ k)))) ∧ Below w.heap.size w w' := by
  obtain ⟨A, c, bs, ts, hT⟩ := h.is
  clear h
  have hpow : 0 < 2 ^ k := Nat.two_pow_pos k
  obtain ⟨N, hN⟩ : ∃ N, N = 2 ^ k := ⟨_, rfl⟩
  rw [← hN] at hd hl hpow ⊢
  have c2 : w.cell? ⟨b, 2, none⟩ = some (.slice A bs.length c) := by rw [hT.blk.cell]; rfl
  have hbl := hT.blk.lt
  have hlen := hT.nodes.len
  have htsl : ts.length ≤ ds.length := by have := peaks_len hT.peaks; rwa [hT.leaves] at this
  have HT := hid (And.intro hT (And.intro hN hd))
  clear hT hN hd
  go_enter Tryz.func183, Tryz.ntmps183
  go_upto_region 1 with fail
  refine wp_world (fun w' => WhI w lo w') (WhI.new w lo) ?_
  rintro w1 hw1
  have c2w : w1.cell? ⟨b, 2, none⟩ = some (.slice A bs.length c) := by rw [hw1.bl.cell (p := ⟨b, 2, none⟩) hbl]; exact c2
  have HW := hid hw1
  clear hw1 c2
  go_wp2_with fail
  go_loopg [7, 15] ts.length (fun g s7 i wr => ∃ j : Nat, j + g = ts.length ∧ i = .int .i64 j ∧ ahead ts j ≤ lo ∧ WhI w (lo - ahead ts j) wr)
  case atStart => exact ⟨0, by omega, rfl, by simp [ahead, peakLeaves], by simpa [ahead, peakLeaves] using HW.out⟩
  case round =>
    clear HW
    obtain ⟨j, hj, rfl, hjl, hi⟩ := hrel
    have HI := hid hi
    clear hi
    by_cases hlt : j < ts.length
    · have hjb : j < bs.length := by omega
      obtain ⟨g, o, rfl, hr⟩ := HT.out.1.rd (fun e => by have h0 : bs = [] := (by simpa using e); rw [h0] at hjb; simp at hjb)
      have c3 : wr.cell? ⟨g, o + j, none⟩ = some (ptr bs[j]) := by
        have hm : (bs.map ptr)[j]? = some (ptr bs[j]) := by simp [hjb]
        rw [HI.out.bl.cell (p := ⟨g, o + j, none⟩) (range_lt hr (by simp; omega)), hr j _ hm]
      have hnode : NodeAt wr bs[j] ts[j] := (HT.out.1.nodes.at_ j bs[j] ts[j] (by simp [hjb]) (by simp [hlt])).grown HI.out.bl
      obtain ⟨hdl, vl, vr, hnb⟩ := hnode.cells
      have c4 : wr.cell? ⟨bs[j], 34, none⟩ = some (.int .u64 ts[j].size) := by rw [hnb.cell]; unfold nodeCells; rw [List.getElem?_append_right (by simp [hdl])]; simp [hdl]
      have c5 : wr.cell? ⟨w.heap.size, 0, none⟩ = some (.int .u64 (lo - ahead ts j : Nat)) := by rw [HI.out.a.cell]; rfl
      have f5 := HI.out.a.frozen 0
      have hsucc := ahead_succ HT.out.1.peaks j hlt
      have HN := hid (And.intro hnode (And.intro hr hsucc))
      clear hnode hnb hr hsucc hdl
      by_cases hin : lo - ahead ts j < ts[j].size
      · have i1 : ((lo - ahead ts j : Nat) : Int) < ((ts[j].size : Nat) : Int) := by omega
        go_upto_region 6 with fail
        go_quiet (fail)
        have hbi := block_in HT.out.1.peaks j hlt lo k (by rw [← HT.out.2.1]; exact HT.out.2.2) (by rw [HT.out.1.leaves, ← HT.out.2.1]; exact hl) hjl (by omega)
        rw [← HT.out.2.1] at hbi
        have hpart := peak_part HT.out.1.peaks j hlt (lo - ahead ts j) N hbi.2.2
        rw [HT.out.1.leaves, show ahead ts j + (lo - ahead ts j) = lo by omega] at hpart
        have hszl := peak_le HT.out.1.peaks j hlt
        rw [HT.out.1.leaves] at hszl
        have H2 := hid (And.intro (HN.out.1.grown ((Below.refl _ _).trans (below_drewN (Below.refl _ _) nq))) (And.intro (HT.out.1.peaks.get_ok j hlt) (And.intro hbi (And.intro hpart (And.intro hszl (HI.out.drew nq))))))
        clear hbi hpart hszl
        rename World => wo
        go_wp2_with fail
        go_loopg [7] ts[j].ht (fun g s7 wr => ∃ (nb x : Nat) (t : MT), g = t.ht ∧ s7 = ptr nb ∧ NodeAt wr nb t ∧ t.ok n ∧ k ≤ t.ht ∧ N ∣ x ∧ x + N ≤ t.size ∧ t.size ≤ ds.length ∧ (t.leaves.drop x).take N = (ds.drop lo).take N ∧ WhI w x wr)
        case atStart => exact ⟨bs[j], lo - ahead ts j, ts[j], rfl, rfl, H2.out.1, H2.out.2.1, H2.out.2.2.1.1, H2.out.2.2.1.2.1, H2.out.2.2.1.2.2, H2.out.2.2.2.2.1, H2.out.2.2.2.1, H2.out.2.2.2.2.2⟩
        case round =>
          obtain ⟨nb, x, t, hgt, rfl, hna, htok, hkt, hdx, hxs, hsl, hpt, hwi⟩ := hrel
          obtain ⟨hdl, vl, vr, hnb⟩ := hna.cells
          have n34 : wr.cell? ⟨nb, 34, none⟩ = some (.int .u64 t.size) := by rw [hnb.cell]; unfold nodeCells; rw [List.getElem?_append_right (by simp [hdl])]; simp [hdl]
          have HQ := hid (And.intro hna (And.intro htok (And.intro hdx (And.intro hpt (And.intro hwi (And.intro hnb hdl))))))
          clear hna htok hdx hpt hwi hnb hdl
          by_cases hkk : t.ht = k
          · have hsz : t.size = N := by rw [HT.out.2.1, ← hkk]; rfl
            have i1 : ¬ ((N : Nat) : Int) < ((t.size : Nat) : Int) := by omega
            have hx0 : x = 0 := by omega
            have hroot : Mt.log n ((ds.drop lo).take N) = t.dig := by
              rw [MT.dig_log n t HQ.out.2.1, ← HQ.out.2.2.2.1, hx0, List.drop_zero, List.take_of_length_le (by rw [MT.leaves_len n t HQ.out.2.1, hsz]; exact Nat.le_refl _)]
            have hrn : wr.rangeAt nb 0 (t.dig.map b8) := HQ.out.2.2.2.2.2.1.range [] (t.dig.map b8) _ rfl
            have hln : (t.dig.map b8).length = 32 := by simp [HQ.out.2.2.2.2.2.2]
            have htr := HQ.out.2.2.2.2.1.r.there 0 32 (by simp)
            have HL := hid (And.intro hln hroot)
            clear hln hroot hsz hx0
            go_wp2_with (first
              | ((with_reducible refine ld_mid 40 (.tmp 43) nb 0 _ 32 _ HL.out.1 hrn Tryz.underlying40 rfl (by kernel_rfl) ?_ ?_ ?_ ?_); rfl; rfl; rfl)
              | ((with_reducible refine st_mid 40 (.tmp 6) (.tmp 44) (w.heap.size + 1) 0 (t.dig.map b8) 32 HL.out.1 htr (by kernel_rfl) (one_b8 _) ?_ ?_ ?_ ?_ ?_); rfl; rfl; rfl; rfl))
            refine rt_cell (w.heap.size + 1) 0 _ 32 _ HL.out.1 (World.rangeAt_setCells_same _ _ _ _ (by rw [HL.out.1]; exact htr)) Tryz.underlying40 rfl (by kernel_rfl) rfl rfl rfl ⟨?_, below_setCells _ (by omega) _ _ _ HQ.out.2.2.2.2.1.bl⟩
            rw [HL.out.2]
          · have hlt2 : k < t.ht := by omega
            have hpw : 2 ^ (k + 1) ≤ t.size := Nat.pow_le_pow_right (by decide) hlt2
            have hNk := HT.out.2.1
            rw [Nat.pow_succ, ← hNk] at hpw
            clear hNk
            have i1 : ((N : Nat) : Int) < ((t.size : Nat) : Int) := by omega
            cases t with
            | leaf d => exact absurd hlt2 (by simp [MT.ht])
            | node d l r =>
              obtain ⟨hd32, bl, br, hbk, hnl, hnr⟩ := HQ.out.1
              obtain ⟨hol, hor, hht, hdd⟩ := HQ.out.2.1
              have hsz2 : (MT.node d l r).size = 2 * l.size := by unfold MT.size; simp only [MT.ht]; rw [Nat.pow_succ]; omega
              have hrs : r.size = l.size := by unfold MT.size; rw [hht]
              have hll := MT.leaves_len n l hol
              have hcall := child_any nb w.heap.size x (2 ^ (l.ht + 1)) d (ptr bl) (ptr br) wr HQ.out.2.2.2.2.1.a hbk hd32 (by have : (MT.node d l r).size = 2 ^ (l.ht + 1) := rfl; omega) (by have : (MT.node d l r).size = 2 ^ (l.ht + 1) := rfl; omega)
              have e2 : 2 ^ (l.ht + 1) / 2 = l.size := by have : (MT.node d l r).size = 2 ^ (l.ht + 1) := rfl; omega
              have hNl : N ∣ l.size := by rw [HT.out.2.1]; exact Nat.pow_dvd_pow 2 (by simp only [MT.ht] at hlt2; omega)
              rw [e2] at hcall
              by_cases hx : x < l.size
              · simp only [hx, if_true] at hcall
                have hfit := fit_dvd HQ.out.2.2.1 hNl hx
                have hpt2 : (l.leaves.drop x).take N = (ds.drop lo).take N := by
                  rw [← HQ.out.2.2.2.1]
                  simp only [MT.leaves]
                  rw [List.drop_append_of_le_length (by omega), List.take_append_of_le_length (by simp; omega)]
                have HC := hid (And.intro hcall hpt2)
                have HE := hid (And.intro hht (And.intro hsz2 hrs))
                clear hcall hpt2 hht hdd hsz2 hrs hll e2
                go_wp2_with (go_at_call 210; refine HC.out.1.mono ?_; rintro e9 w9 ⟨rfl, hk9, ha9⟩; have HK := hid (And.intro hk9 ha9); clear hk9 ha9)
                go_roundg l.ht
                case measure => simp only [MT.ht] at hgt; omega
                case rel =>
                  have hht := HE.out.1
                  have hsz2 := HE.out.2.1
                  have hrs := HE.out.2.2
                  have hst := stay_of_kept HK.out.1 HQ.out.2.2.2.2.1.a (by decide)
                  exact ⟨bl, x, l, rfl, rfl, hnl.stay hst, hol, by simp only [MT.ht] at hlt2; omega, HQ.out.2.2.1, hfit, by omega, HC.out.2, HQ.out.2.2.2.2.1.kept HK.out.1 HK.out.2⟩
              · simp only [hx, if_false] at hcall
                have hdv : N ∣ x - l.size := Nat.dvd_sub HQ.out.2.2.1 hNl
                have hpt2 : (r.leaves.drop (x - l.size)).take N = (ds.drop lo).take N := by
                  rw [← HQ.out.2.2.2.1]
                  simp only [MT.leaves]
                  conv => rhs; rw [List.drop_append, List.drop_eq_nil_of_le (show l.leaves.length ≤ x by omega), List.nil_append, hll]
                have HC := hid (And.intro hcall hpt2)
                have HE := hid (And.intro hht (And.intro hsz2 hrs))
                clear hcall hpt2 hht hdd hsz2 hrs hll e2
                go_wp2_with (go_at_call 210; refine HC.out.1.mono ?_; rintro e9 w9 ⟨rfl, hk9, ha9⟩; have HK := hid (And.intro hk9 ha9); clear hk9 ha9)
                go_roundg r.ht
                case measure => have := HE.out.1; simp only [MT.ht] at hgt; omega
                case rel =>
                  have hht := HE.out.1
                  have hsz2 := HE.out.2.1
                  have hrs := HE.out.2.2
                  have hst := stay_of_kept HK.out.1 HQ.out.2.2.2.2.1.a (by decide)
                  exact ⟨br, x - l.size, r, rfl, rfl, hnr.stay hst, hor, by simp only [MT.ht] at hlt2; omega, hdv, by omega, by omega, HC.out.2, HQ.out.2.2.2.2.1.kept HK.out.1 HK.out.2⟩
      · have i1 : ¬ ((lo - ahead ts j : Nat) : Int) < ((ts[j].size : Nat) : Int) := by omega
        have hsub : IntKind.u64.wrap (((lo - ahead ts j : Nat) : Int) - ((ts[j].size : Nat) : Int)) = ((lo - ahead ts (j + 1) : Nat) : Int) := by
          rw [IntKind.wrap_u64, HN.out.2.2]; omega
        go_upto_region 6 with fail
        go_quiet (fail)
        go_upto_region 7 with fail
        have c5q : (wr.drewN nq).cell? ⟨w.heap.size, 0, none⟩ = some (.int .u64 (lo - ahead ts j : Nat)) := c5
        have c4q : (wr.drewN nq).cell? ⟨bs[j], 34, none⟩ = some (.int .u64 ts[j].size) := c4
        refine wp_region_drew_tail 6 (by kernel_rfl) (by kernel_rfl) ?_
        dsimp only [List.take_succ_cons, List.take_zero, List.drop_succ_cons, List.drop_zero]
        repeat go_big_quiet_step (fail)
        refine wpQuiet_nil ?_
        rintro _ ⟨nq2, rfl⟩
        have e0 : ((wr.drewN nq).drewN nq2).cell? ⟨w.heap.size, 0, none⟩ = some (.int .u64 (lo - ahead ts j : Nat)) := c5
        have e1 : ((wr.drewN nq).drewN nq2).frozen? ⟨w.heap.size, 0, none⟩ = false := f5
        go_wp2_with fail
        go_roundg (gk - 1)
        case measure => omega
        case rel =>
          refine ⟨j + 1, by omega, by go_num, by rw [HN.out.2.2]; omega, ?_⟩
          exact HI.out.set _ _
    · exfalso
      obtain rfl : j = ts.length := by omega
      have := HT.out.1.leaves
      have h2 : ahead ts ts.length = ds.length := by unfold ahead; rw [List.take_length, this]
      omega
end Go.Proofs.YtpnakfeafekneaaGreatDoor
