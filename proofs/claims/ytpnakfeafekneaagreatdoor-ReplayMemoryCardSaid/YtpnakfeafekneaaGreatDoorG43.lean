/- Part 43 of this proof: MK. -/
import Derived.Test.YtpnakfeafekneaaGreatDoorG42
set_option linter.unusedSimpArgs false
set_option linter.unusedVariables false
namespace Go.Proofs.YtpnakfeafekneaaGreatDoor
open Go.RowKit
theorem cutupN (bs : List (List Ent)) (M : Nat) (A Ac : Option Addr) (n cl q cc : Nat) (L : List (List Value)) (es : List Ent) (zs : List Int) (w : World) (hbs : bs = Cu.cut zs es) (hM : bs.length = M) (hn : es.length = n) (hq : zs.length = q) (hA : Rd w A L.flatten) (hE : EntsAt w L es) (hZ : Rd w Ac (zs.map fun z => .int .i64 z)) (hnb : n < 1048576) (hcl : n ≤ cl) (hqb : q < 9223372036854775808) :
    Calls Tryz.prog 23 #[.slice A n cl, .slice Ac q cc] w fun e w' => ∃ (A' : Option Addr) (c' : Nat) (X : List (List Value)), e = .returned (.slice A' M c') ∧ Below w.heap.size w w' ∧ Rd w' A' X.flatten ∧ BatsAt w' X (Cu.firsts bs) bs := by
  subst hbs hM
  exact (cutup_any A Ac n cl q cc L es zs w hn hq hA hE hZ hnb hcl hqb).mono fun _ _ ⟨A', c', X, h1, h2, h3, h4, _⟩ => ⟨A', c', X, h1, h2, h3, h4⟩
theorem rootsTN_any (n : Nat) (h1 : 1 ≤ n) (h2 : n ≤ 32) (es : List Ent) (A : Option Addr) (m c : Nat) (L : List (List Value)) (w : World) (hw : Words w) (hm : es.length = m) (hA : Rd w A L.flatten) (hE : EntsAt w L es) (hn : m + 2 < 1048576) (h0 : En.all es = 0) :
    Calls Tryz.prog 9 #[.int .i64 n, .slice A m c] w fun e w' => Below w.heap.size w w' ∧ ∃ Ar cr, e = .returned (.tuple #[.slice Ar (m + 1) cr, .int .i64 0]) ∧ Rd w' Ar (rtRow (Rl n es m)).flatten ∧ Tyd w' 42 Ar := by
  subst hm
  refine (rootsT_any n h1 h2 es A c L w hw hA hE hn).mono fun _ _ ⟨hb, h⟩ => ⟨hb, ?_⟩
  rcases h with ⟨h, -⟩ | ⟨-, h⟩
  · exact absurd h0 h
  · exact h
theorem cut_facts (zs : List Int) (es : List Ent) : (Cu.cut zs es).flatten = es ∧ (Cu.cut zs es).length ≤ es.length ∧ ∀ b ∈ Cu.cut zs es, 1 ≤ b.length ∧ b.length ≤ 64 := by
  have h : ∀ (f k p : Nat) (bs : List (List Ent)), es.length ≤ p + f → Cu.Cutting zs es k p bs → (Cu.cut zs es).flatten = es ∧ (Cu.cut zs es).length ≤ es.length ∧ ∀ b ∈ Cu.cut zs es, 1 ≤ b.length ∧ b.length ≤ 64 := by
    intro f
    induction f with
    | zero =>
      intro k p bs hp hC
      have hd := hC.done (by omega)
      have hf := hC.flat
      rw [List.take_of_length_le (by omega)] at hf
      have hl := hC.le
      rw [hf, ← hC.len] at hl
      rw [← hd]
      exact ⟨hf, hl, hC.each⟩
    | succ f ih =>
      intro k p bs hp hC
      by_cases hlt : p < es.length
      · have := Cu.c_pos zs k (es.length - p) (by omega)
        exact ih _ _ _ (by omega) (hC.step hlt)
      · exact ih k p bs (by omega) hC
  exact h es.length 0 0 [] (by omega) (Cu.Cutting.start zs es)
theorem cell_gro {w w' : World} {p : Addr} {v : Value} (h : w.cell? p = some v) (hb : Below w.heap.size w w') : w'.cell? p = some v := (hb.cell (World.block_lt_of_cell? w _ h)).trans h
theorem memory_short (x : Int) (A : Option Addr) (m c : Nat) (v : Value) (w : World) (hw : Words w) (h200 : 200 < m) :
    Calls Tryz.prog 6 #[.int .i64 x, .slice A m c, v] w fun e w' => e = .returned (.bool true) ∧ Below w.heap.size w w' := by
  have hi : (200 : Int) < (m : Int) := by omega
  go_enter Tryz.func6, Tryz.ntmps6
  go_wp2_with (go_at_call 8
               refine (awake_any w hw).mono ?_
               rintro e w1 ⟨rfl, hb1⟩
               have H1 := hid hb1
               clear hb1)
  go_ret
  exact ⟨rfl, H1.out⟩
theorem memory_width (x : Int) (es : List Ent) (A : Option Addr) (m c : Nat) (v : Value) (L : List (List Value)) (w : World) (hw : Words w) (hm : es.length = m) (hA : Rd w A L.flatten) (hE : EntsAt w L es) (h200 : ¬ 200 < m) (hx : ¬ (1 ≤ x ∧ x ≤ 32)) :
    Calls Tryz.prog 6 #[.int .i64 x, .slice A m c, v] w fun e w' => e = .returned (.bool true) ∧ Below w.heap.size w w' := by
  have hi : ¬ (200 : Int) < (m : Int) := by omega
  have HA := hid (And.intro hA (And.intro hE (And.intro hm (And.intro hw hx))))
  clear hA hE hm hw hx
  go_enter Tryz.func6, Tryz.ntmps6
  go_wp2_with (first
    | (go_at_call 14
       refine (rwidth_raw x w2).mono ?_
       rintro e w3 ⟨rfl, rfl⟩
       rw [if_neg HA.out.2.2.2.2])
    | (go_at_call 13
       refine (good_any es A m c L w1 HA.out.2.2.1 (HA.out.1.grown H1.out) (HA.out.2.1.grown H1.out) (by omega)).mono ?_
       rintro e w2 ⟨A2, k, c2, L2, rfl, hb2, hk2, hkc, hr2, he2⟩
       have H2 := hid (And.intro (gro H1.out hb2) (And.intro hk2 (And.intro hkc (And.intro hr2 he2))))
       clear hb2 hk2 hkc hr2 he2)
    | (go_at_call 8
       refine (awake_any w HA.out.2.2.2.1).mono ?_
       rintro e w1 ⟨rfl, hb1⟩
       have H1 := hid hb1
       clear hb1))
  go_ret
  exact ⟨rfl, H2.out.1⟩
set_option maxHeartbeats 8000000 in
set_option maxRecDepth 100000 in
theorem memory_full (n : Nat) (h1 : 1 ≤ n) (h2 : n ≤ 32) (es : List Ent) (zs : List Int) (A Ac : Option Addr) (m c q cc : Nat) (L : List (List Value)) (w : World) (hw : Words w) (hm : es.length = m) (hA : Rd w A L.flatten) (hE : EntsAt w L es) (hq : zs.length = q) (hZ : Rd w Ac (zs.map fun z => .int .i64 z)) (hqb : q < 9223372036854775808) (h200 : ¬ 200 < m) :
    Calls Tryz.prog 6 #[.int .i64 n, .slice A m c, .slice Ac q cc] w fun e w' => e = .returned (.bool true) ∧ Below w.heap.size w w' := by
  have hi : ¬ (200 : Int) < (m : Int) := by omega
  have HA := hid (And.intro hA (And.intro hE (And.intro hm (And.intro hw (And.intro h1 h2)))))
  have HZ := hid (And.intro hq (And.intro hZ hqb))
  clear hA hE hm hw h1 h2 hq hZ hqb
  go_enter Tryz.func6, Tryz.ntmps6
  go_wp2_with (first
    | (go_at_call 14
       refine (rwidth_raw n w2).mono ?_
       rintro e w3 ⟨rfl, rfl⟩
       rw [if_pos (show 1 ≤ (n : Int) ∧ (n : Int) ≤ 32 by have := HA.out.2.2.2.2; omega)])
    | (go_at_call 13
       refine (good_any es A m c L w1 HA.out.2.2.1 (HA.out.1.grown H1.out) (HA.out.2.1.grown H1.out) (by omega)).mono ?_
       rintro e w2 ⟨A2, k, c2, L2, rfl, hb2, hk2, hkc, hr2, he2⟩
       have hle := En.good_le es
       have hk200 : k ≤ 200 := (by have := HA.out.2.2.1; omega)
       have hkey : ∀ e ∈ En.good es, e.key.length ≤ 64 ∧ e.val.length ≤ 256 := (fun e he => En.good_key he)
       have hok : ∀ e ∈ En.good es, En.check e = 0 := (fun e he => En.good_ok he)
       obtain ⟨gs, hgs⟩ : ∃ gs, gs = En.good es := ⟨_, rfl⟩
       rw [← hgs] at hk2 he2 hkey hok
       have H2 := hid (And.intro (gro H1.out hb2) (And.intro hk2 (And.intro hkc (And.intro hr2 (And.intro (he2.grown hb2) hkey)))))
       have HG := hid hok
       clear hb2 hk2 hr2 he2 hle hok hkey hgs)
    | (go_at_call 8
       refine (awake_any w HA.out.2.2.2.1).mono ?_
       rintro e w1 ⟨rfl, hb1⟩
       have H1 := hid hb1
       clear hb1))
  go_loopg [7, 8, 38] k (fun g s7 s8 i wr => ∃ (j : Nat) (Aa : Option Addr) (ca : Nat) (Am : Option Addr) (cm : Nat) (bks : List (Nat × Nat)) (Lm : List (List Value)), j + g = k ∧ i = .int .i64 j ∧ s7 = .slice Aa (2 * j) ca ∧ s8 = .slice Am j cm ∧ wr.ownsRow w2.heap.size 34 1 (.slice Aa (2 * j) ca) (2 * j) (bkRow bks) ∧ wr.ownsRow w2.heap.size 36 3 (.slice Am j cm) j Lm.flatten ∧ EntsTy wr Lm (gs.take j) ∧ Rooms w2.heap.size wr gs j bks ∧ Below w2.heap.size w2 wr)
  case atStart => exact ⟨0, none, 0, none, 0, [], [], by omega, rfl, rfl, rfl, World.ownsRow_nil _ _ _ _, World.ownsRow_nil _ _ _ _, ⟨rfl, fun i x p h => by simp at h⟩, ⟨rfl, fun i b h => by simp at h, List.Pairwise.nil, fun b h => by cases h⟩, Below.refl _ _⟩
  case round =>
    obtain ⟨j, Aa, ca, Am, cm, bks, Lm, hj, rfl, rfl, rfl, hoa, hom, hen, hsp, hbl⟩ := hrel
    have HR := hid (And.intro hoa (And.intro hom (And.intro hen (And.intro hsp hbl))))
    clear hoa hom hen hsp hbl
    by_cases hlt : j < k
    · have hjg : j < gs.length := by have := H2.out.2.1; omega
      obtain ⟨kind, key, val, hjj⟩ : ∃ kind key val, gs[j]? = some ⟨kind, key, val⟩ := ⟨gs[j].kind, gs[j].key, gs[j].val, by simp [hjg]⟩
      have hL := H2.out.2.2.2.2.1.len
      have hjl : j < L2.length := by omega
      obtain ⟨g, o, rfl, hr⟩ := H2.out.2.2.2.1 (by
        intro e
        have := flatten_len 3 _ H2.out.2.2.2.2.1.three
        rw [e] at this
        simp at this; omega)
      have hp := range_part hr H2.out.2.2.2.2.1.three j hjl
      have hbk : key.length ≤ 64 ∧ val.length ≤ 256 := H2.out.2.2.2.2.2 _ (List.mem_of_getElem? hjj)
      obtain ⟨A1, c1', A3, c3', hx, hr1, hr3, hc1, hc3⟩ := H2.out.2.2.2.2.1.at_ j L2[j] ⟨kind, key, val⟩ (by simp [hjl]) hjj
      rw [hx] at hp
      simp only [] at hp
      have hlb := range_lt hp (by simp)
      have hp2 := range_below hp HR.out.2.2.2.2 hlb
      have hoc : ∀ v ∈ [b8 kind, .slice A1 key.length c1', .slice A3 val.length c3'], v.oneCell' = true := fun v hv => by
        simp only [List.mem_cons, List.not_mem_nil, or_false] at hv
        rcases hv with rfl | rfl | rfl <;> rfl
      have hwe : Blk (wr.alloc (.cells [b8 kind, .slice A1 key.length c1', .slice A3 val.length c3'].toArray 36)) wr.heap.size 36 [b8 kind, .slice A1 key.length c1', .slice A3 val.length c3'] := Blk.new wr _ _
      have hp9 : (wr.alloc (.cells [b8 kind, .slice A1 key.length c1', .slice A3 val.length c3'].toArray 36)).cell? ⟨wr.heap.size, 1, none⟩ = some (.slice A1 key.length c1') := by rw [hwe.cell]; rfl
      have HB := hid (below_box wr (.cells [b8 kind, .slice A1 key.length c1', .slice A3 val.length c3'].toArray 36))
      have HWE := hid hwe
      have HKV := hid (And.intro hr1 (And.intro hr3 (And.intro hjj hbk)))
      clear hr hr1 hr3 hx hp hc1 hc3 hL hlb hjj hwe hbk
      have h63 : j + 1 ≤ maxLen := by simp only [maxLen]; omega
      have hby : (j + 1) * 56 ≤ 140737488355328 := by omega
      have h64 : 2 * j + 2 ≤ maxLen := by simp only [maxLen]; omega
      have hbz : (2 * j + 2) * 24 ≤ 140737488355328 := by omega
      go_wp2_with (first
        | ((with_reducible refine ld_mid 36 (.tmp 40) g (o + j * 3) _ 3 _ rfl hp2 Tryz.underlying36 rfl (by kernel_rfl) ?_ ?_ ?_ ?_); rfl; rfl; rfl)
        | ((with_reducible refine st_new 36 (.tmp 10) (.tmp 41) _ _ [b8 kind, .slice A1 key.length c1', .slice A3 val.length c3'] 3 rfl ?_ (by kernel_rfl) hoc ?_ ?_ ?_ ?_ ?_); rfl; rfl; rfl; rfl; rfl)
        | (go_at_call 22
           refine (spare_any A3 val.length c3' val w7 rfl ((HKV.out.2.1.grown HR.out.2.2.2.2).grown H7.out.2.2.2) (by have := HKV.out.2.2.2; omega)).mono ?_
           rintro e w8 ⟨g2, rfl, hb8, hg2, hk2'⟩
           have hp9c : w8.cell? ⟨wr.heap.size, 0, none⟩ = some (b8 kind) := (by rw [((HWE.out.grown H7.out.1).grown hb8).cell]; rfl)
           have hlt7 := H7.out.2.2.1.lt
           have hsp8 := HR.out.2.2.2.1.step HKV.out.2.2.1 (gro H7.out.2.2.2 hb8) H7.out.2.1 (show g1 < g2 by omega) HR.out.2.2.2.2.size (H7.out.2.2.1.grown hb8) hk2'
           have hent := ent_spare (kind := kind) (H7.out.2.2.1.grown hb8) hk2'
           have H8 := hid (And.intro (gro H7.out.2.2.2 hb8) (And.intro hsp8 hent))
           have hoa8 := own_grown HR.out.1 (gro H7.out.2.2.2 hb8)
           have hom8 := own_grown HR.out.2.1 (gro H7.out.2.2.2 hb8)
           have H8b := hid (And.intro hoa8 (And.intro hom8 (gro HR.out.2.2.2.2 (gro H7.out.2.2.2 hb8))))
           clear hb8 hg2 hk2' hlt7 hsp8 hent hoa8 hom8)
        | (go_at_call 22
           refine (spare_any A1 key.length c1' key _ rfl ((HKV.out.1.grown HR.out.2.2.2.2).grown HB.out) (by have := HKV.out.2.2.2; omega)).mono ?_
           rintro e w7 ⟨g1, rfl, hb7, hg1, hk1⟩
           have hp9b : w7.cell? ⟨wr.heap.size, 2, none⟩ = some (.slice A3 val.length c3') := (by rw [(HWE.out.grown hb7).cell]; rfl)
           have H7 := hid (And.intro hb7 (And.intro (Nat.le_trans HB.out.size hg1) (And.intro hk1 (gro HB.out hb7))))
           clear hb7 hg1 hk1)
        | ((with_reducible refine ap_ent (.tmp 54) (.tmp 60) H8b.out.2.1 _ _ _ _ _ _ _ h63 hby H8b.out.2.2.size ?_ ?_ ?_ ?_ ?_); rfl; rfl; rfl; rfl
           intro A9 c9 w9 ho9 hb9 hbut9
           obtain ⟨wx, hbx, hbut⟩ := hbut9
           have hoa9 := Stay.own hbut (own_grown H8b.out.1 hbx) (by decide)
           have hsp9 := (H8.out.2.1.grown hbx).but (by decide) hbut
           have hen9 := (((HR.out.2.2.1.grown (H8.out.1)).append (EntsTy.one H8.out.2.2)).grown hbx).but (by decide) hbut
           have H9 := hid (And.intro ho9 (And.intro hoa9 (And.intro hsp9 (And.intro hen9 (H8b.out.2.2.trans hb9)))))
           clear ho9 hb9 hbx hbut hoa9 hsp9 hen9)
        | ((with_reducible refine ap_two (.tmp 62) (.tmp 65) H9.out.2.1 _ _ _ _ _ _ h64 hbz H9.out.2.2.2.2.size ?_ ?_ ?_ ?_ ?_); rfl; rfl; rfl; rfl
           intro A10 c10 w10 ho10 hb10 hbut10
           obtain ⟨wx, hbx, hbut⟩ := hbut10
           have hom10 := Stay.own hbut (own_grown H9.out.1 hbx) (by decide)
           have hsp10 := (H9.out.2.2.1.grown hbx).but (by decide) hbut
           have hen10 := (H9.out.2.2.2.1.grown hbx).but (by decide) hbut
           have H10 := hid (And.intro ho10 (And.intro hom10 (And.intro hsp10 (And.intro hen10 (H9.out.2.2.2.2.trans hb10)))))
           clear ho10 hb10 hbx hbut hom10 hsp10 hen10))
      go_roundg (gk - 1)
      case measure => omega
      case rel =>
        refine ⟨j + 1, A10, c10, A9, c9, bks ++ [(g1, key.length + 40), (g2, val.length + 40)], Lm ++ [[b8 kind, .slice (some ⟨g1, 0, none⟩) key.length (key.length + 40), .slice (some ⟨g2, 0, none⟩) val.length (val.length + 40)]], by omega, by go_num, rfl, rfl, ?_, ?_, ?_, H10.out.2.2.1, H10.out.2.2.2.2⟩
        · have := H10.out.1
          rw [show bkRow (bks ++ [(g1, key.length + 40), (g2, val.length + 40)]) = bkRow bks ++ [.slice (some ⟨g1, 0, none⟩) (key.length + 40) (key.length + 40), .slice (some ⟨g2, 0, none⟩) (val.length + 40) (val.length + 40)] by simp [bkRow]]
          exact this
        · rw [List.flatten_append]; exact H10.out.2.1
        · rw [List.take_succ_eq_append_getElem hjg, (List.getElem?_eq_some_iff.1 HKV.out.2.2.1).2]
          exact H10.out.2.2.2.1
    · obtain rfl : k = j := by omega
      have hen := HR.out.2.2.1
      rw [List.take_of_length_le (by rw [H2.out.2.1]; exact Nat.le_refl _)] at hen
      obtain ⟨Am', cm', em, hrm, hkm⟩ := rd_own HR.out.2.1
      cases em
      obtain ⟨Aa', ca', ea, hra, -⟩ := rd_own HR.out.1
      cases ea
      have htya := own_tyd HR.out.1
      have hB := HR.out.2.2.2.1.bks htya H2.out.2.2.2.2.2
      have hals := HR.out.2.2.2.1.als hra
      have hlen := HR.out.2.2.2.1.len
      have hlow := HR.out.2.2.2.1.low
      have hblt := HR.out.2.2.2.1.lt
      obtain ⟨bs, hbs⟩ : ∃ bs, bs = Cu.cut zs gs := ⟨_, rfl⟩
      obtain ⟨M, hM⟩ : ∃ M, M = bs.length := ⟨_, rfl⟩
      have hcf := cut_facts zs gs
      rw [← hbs, ← hM, H2.out.2.1] at hcf
      have hMk := hcf.2.1
      have herr := Cu.err_zero (bs := bs) (by rw [hcf.1]; exact HG.out) hcf.2.2 (by rw [hcf.1, H2.out.2.1]; omega)
      have hflt := Cu.firsts_lt (bs := bs) (by rw [hcf.1, H2.out.2.1]; omega)
      have HBS := hid (And.intro hbs (And.intro hM (And.intro hcf (And.intro herr hflt))))
      have HM := hid (And.intro hrm (And.intro hkm hen.ents))
      have HBK := hid (And.intro hals (And.intro hB (And.intro hlen (And.intro hlow hblt))))
      have HW5 := hid HR.out.2.2.2.2
      clear HR hbs hM hcf herr hflt hrm hkm hen hals hB hlen hlow hblt hra htya
      rename World => w5
      go_wp2_with (first
        | (go_at_call 24
           refine (sames_any A2 Am k c2 cm L2 Lm gs w8 H2.out.2.1 (H2.out.2.2.2.1.grown (gro HW5.out H8.out.1)) (HM.out.1.grown H8.out.1) (H2.out.2.2.2.2.1.grown (gro HW5.out H8.out.1)) (HM.out.2.2.grown H8.out.1) (fun e he => by have := H2.out.2.2.2.2.2 e he; omega) (by omega)).mono ?_
           rintro e w9 ⟨rfl, hb9⟩
           have H9 := hid hb9
           clear hb9)
        | (go_at_call 9
           refine (rootsTN_any n HA.out.2.2.2.2.1 HA.out.2.2.2.2.2 gs Am k cm Lm w7 (HA.out.2.2.2.1.below (gro H2.out.1 (gro HW5.out H7.out.1))) H2.out.2.1 (HM.out.1.grown H7.out.1) (HM.out.2.2.grown H7.out.1) (by omega) (En.all_of HG.out)).mono ?_
           rintro e w8 ⟨hb8, Ar, cr, rfl, hr8, ht8⟩
           have H8 := hid (And.intro (gro H7.out.1 hb8) (And.intro (@SnapAt.grown ⟨⟨w5.heap.size⟩⟩ _ _ _ _ _ _ _ H7.out.2 hb8) (And.intro hr8 ht8)))
           clear hb8 hr8 ht8)
        | (go_at_call 19
           refine (@buildN ⟨⟨w5.heap.size⟩⟩ n HA.out.2.2.2.2.1 HA.out.2.2.2.2.2 bs (Cu.firsts bs) A6 M c6 X6 w6 (HA.out.2.2.2.1.below (gro H2.out.1 (gro HW5.out H6.out.1))) HBS.out.2.1.symm H6.out.2.1 H6.out.2.2 (by rw [HBS.out.2.1]; exact HBS.out.2.2.2.1) (by omega) (by rw [HBS.out.2.2.1.1, H2.out.2.1]; omega) H6.out.1.size).mono ?_
           rintro e w7 ⟨b7, S7, rfl, hb7, hs7⟩
           have H7 := hid (And.intro (gro H6.out.1 hb7) hs7)
           clear hb7 hs7)
        | (go_at_call 23
           refine (cutupN bs M Am Ac k cm q cc Lm gs zs w5 HBS.out.1 HBS.out.2.1.symm H2.out.2.1 HZ.out.1 HM.out.1 HM.out.2.2 (HZ.out.2.1.grown (gro H2.out.1 HW5.out)) (by omega) HM.out.2.1 HZ.out.2.2).mono ?_
           rintro e w6 ⟨A6, c6, X6, rfl, hb6, hr6, hx6⟩
           have H6 := hid (And.intro hb6 (And.intro hr6 hx6))
           clear hb6 hr6 hx6))
      have hals9 := HBK.out.1.grown (gro H8.out.1 H9.out)
      have hs9 := @SnapAt.grown ⟨⟨w5.heap.size⟩⟩ _ _ _ _ _ _ _ H8.out.2.1 H9.out
      have hb95 := gro H8.out.1 H9.out
      have H9b := hid (And.intro hals9 (And.intro hs9 (And.intro (H8.out.2.2.1.grown H9.out) (And.intro (H8.out.2.2.2.grown H9.out) hb95))))
      clear hals9 hs9 hb95 H6 H7 H8 H9
      rename World => w9
      go_loopg [100] k (fun g x wr => ∃ i : Nat, i + g = k ∧ x = .int .i64 i ∧ Below w9.heap.size w9 wr)
      case atStart => exact ⟨0, by omega, rfl, Below.refl _ _⟩
      case round =>
        obtain ⟨i, hi9, rfl, hb⟩ := hrel
        have HR := hid hb
        clear hb
        by_cases hlti : i < k
        · have hjg : i < gs.length := by have := H2.out.2.1; omega
          obtain ⟨kind, key, val, hjj⟩ : ∃ kind key val, gs[i]? = some ⟨kind, key, val⟩ := ⟨gs[i].kind, gs[i].key, gs[i].val, by simp [hjg]⟩
          have hL := H2.out.2.2.2.2.1.len
          have hjl : i < L2.length := by omega
          obtain ⟨g, o, rfl, hr⟩ := H2.out.2.2.2.1 (by
            intro e
            have := flatten_len 3 _ H2.out.2.2.2.2.1.three
            rw [e] at this
            simp at this; omega)
          have hp := range_part hr H2.out.2.2.2.2.1.three i hjl
          have hbk : key.length ≤ 64 ∧ val.length ≤ 256 := H2.out.2.2.2.2.2 _ (List.mem_of_getElem? hjj)
          obtain ⟨A1, c1', A3, c3', hx, hr1, hr3, hc1, hc3⟩ := H2.out.2.2.2.2.1.at_ i L2[i] ⟨kind, key, val⟩ (by simp [hjl]) hjj
          rw [hx] at hp
          simp only [] at hp
          have hlb := range_lt hp (by simp)
          have hbw := gro HW5.out (gro H9b.out.2.2.2.2 HR.out)
          have hp2 := range_below hp hbw hlb
          have hoc : ∀ v ∈ [b8 kind, .slice A1 key.length c1', .slice A3 val.length c3'], v.oneCell' = true := fun v hv => by
            simp only [List.mem_cons, List.not_mem_nil, or_false] at hv
            rcases hv with rfl | rfl | rfl <;> rfl
          have hi2 : 2 * i < bks.length := by have := HBK.out.2.2.1; omega
          have hi3 : 2 * i + 1 < bks.length := by have := HBK.out.2.2.1; omega
          obtain ⟨⟨kb, kn⟩, hkb⟩ : ∃ b, bks[2 * i]? = some b := ⟨bks[2 * i], by simp [hi2]⟩
          obtain ⟨⟨vb, vn⟩, hvb⟩ : ∃ b, bks[2 * i + 1]? = some b := ⟨bks[2 * i + 1], by simp [hi3]⟩
          have hals := H9b.out.1.grown HR.out
          have hkk := hals.blk _ _ hkb
          have hvv := hals.blk _ _ hvb
          rw [Mem.full_key hjj] at hkk
          rw [Mem.full_val hjj] at hvv
          obtain rfl : kn = key.length + 40 := by have := hkk.2; simp [Mem.behinds_len] at this; exact this.symm
          obtain rfl : vn = val.length + 40 := by have := hvv.2; simp [Mem.behinds_len] at this; exact this.symm
          obtain ⟨ga, oa, rfl, hca⟩ := hals.cell hkb
          obtain ⟨ga2, oa2, eA, hcv⟩ := hals.cell hvb
          cases eA
          have hwe : Blk (wr.alloc (.cells [b8 kind, .slice A1 key.length c1', .slice A3 val.length c3'].toArray 36)) wr.heap.size 36 [b8 kind, .slice A1 key.length c1', .slice A3 val.length c3'] := Blk.new wr _ _
          have hbx := below_box wr (.cells [b8 kind, .slice A1 key.length c1', .slice A3 val.length c3'].toArray 36)
          have HX := hid (And.intro hkk.1 (And.intro hvv.1 (And.intro ((hr1.grown hbw)) (And.intro ((hr3.grown hbw)) (And.intro hca (And.intro hcv (And.intro hwe hbx)))))))
          clear hr hr1 hr3 hx hp hc1 hc3 hL hlb hjj hwe hals hkk hvv hkb hvb hca hcv hbw hbx
          go_upto_region 25 with (first
            | ((with_reducible refine ld_mid 36 (.tmp 103) g (o + i * 3) _ 3 _ rfl hp2 Tryz.underlying36 rfl (by kernel_rfl) ?_ ?_ ?_ ?_); rfl; rfl; rfl)
            | ((with_reducible refine st_new 36 (.tmp 20) (.tmp 104) _ _ [b8 kind, .slice A1 key.length c1', .slice A3 val.length c3'] 3 rfl ?_ (by kernel_rfl) hoc ?_ ?_ ?_ ?_ ?_); rfl; rfl; rfl; rfl; rfl))
          simp only [Act.put]
          refine wp_world (fun w' => Below wr.heap.size wr w' ∧ Blk w' wr.heap.size 36 [b8 kind, .slice A1 key.length c1', .slice A3 val.length c3']) ⟨HX.out.2.2.2.2.2.2.2, HX.out.2.2.2.2.2.2.1⟩ ?_
          rintro wE ⟨hbE, hwE⟩
          have q1 := Fut.cell (cell_gro HX.out.2.2.2.2.1 hbE)
          have q2 := Fut.cell (cell_gro HX.out.2.2.2.2.2.1 hbE)
          have q3 := Fut.cell (show wE.cell? ⟨wr.heap.size, 1, none⟩ = some (.slice A1 key.length c1') by rw [hwE.cell]; rfl)
          have q4 := Fut.cell (show wE.cell? ⟨wr.heap.size, 2, none⟩ = some (.slice A3 val.length c3') by rw [hwE.cell]; rfl)
          have hcf1 : ∀ s : Fut wE, Calls Tryz.prog 25 #[.slice (some ⟨kb, 0, none⟩) (key.length + 40) (key.length + 40), .slice A1 key.length c1'] s.v fun e w'' => e = .returned (.bool true) ∧ ∃ s' : Fut wE, w'' = s'.v := fun s => Calls.fut_of (kept_any kb key.length key A1 c1' s.v rfl ((HX.out.1.grown hbE).grown s.below) ((HX.out.2.2.1.grown hbE).grown s.below) (by omega))
          have hcf2 : ∀ s : Fut wE, Calls Tryz.prog 25 #[.slice (some ⟨vb, 0, none⟩) (val.length + 40) (val.length + 40), .slice A3 val.length c3'] s.v fun e w'' => e = .returned (.bool true) ∧ ∃ s' : Fut wE, w'' = s'.v := fun s => Calls.fut_of (kept_any vb val.length val A3 c3' s.v rfl ((HX.out.2.1.grown hbE).grown s.below) ((HX.out.2.2.2.1.grown hbE).grown s.below) (by omega))
          have HC := hid (And.intro hcf1 (And.intro hcf2 hbE))
          have hI1 : (0 : Int) ≤ 2 * (i : Int) ∧ 2 * (i : Int) < 2 * (k : Int) := by omega
          have hI2 : (0 : Int) ≤ 2 * (i : Int) + 1 ∧ 2 * (i : Int) + 1 < 2 * (k : Int) := by omega
          have hI3 : (2 * (i : Int)).toNat = 2 * i := by omega
          have hI4 : (2 * (i : Int) + 1).toNat = 2 * i + 1 := by omega
          clear hcf1 hcf2 hbE hwE
          refine wp_region_fut (by kernel_rfl) (by kernel_rfl) ?_
          repeat (first
            | go_big_quiet_step (with_reducible exact HC.out.1 _)
            | go_big_quiet_step (with_reducible exact HC.out.2.1 _))
          refine wpQuiet_nil ?_
          rintro _ ⟨s, rfl⟩
          clear q1 q2 q3 q4 hI1 hI2 hI3 hI4
          go_wp2_with fail
          go_roundg (gk - 1)
          case measure => omega
          case rel => exact ⟨i + 1, by omega, by go_num, gro HR.out (gro HC.out.2.2 s.below)⟩
        · obtain rfl : k = i := by omega
          have hals9 := H9b.out.1.grown HR.out
          have hs9 := @SnapAt.grown ⟨⟨w5.heap.size⟩⟩ _ _ _ _ _ _ _ H9b.out.2.1 HR.out
          have hb95 := gro H9b.out.2.2.2.2 HR.out
          have H10 := hid (And.intro hals9 (And.intro hs9 (And.intro (H9b.out.2.2.1.grown HR.out) (And.intro (H9b.out.2.2.2.1.grown HR.out) hb95))))
          clear hals9 hs9 hb95 H9b HR
          go_wp2_with fail
          rename World => w10
          go_loopg [129] (2 * k) (fun g x wr => ∃ (i : Nat) (f : Nat → List UInt8), i + g = 2 * k ∧ x = .int .i64 i ∧ Als wr Aa bks f ∧ Kept (InBks bks) w10 wr)
          case atStart => exact ⟨0, _, by omega, rfl, H10.out.1, Kept.refl _ _⟩
          case round =>
            obtain ⟨i, f, hi10, rfl, hA, hk⟩ := hrel
            have HR := hid (And.intro hA hk)
            clear hA hk
            by_cases hlti : i < 2 * k
            · have hib : i < bks.length := by have := HBK.out.2.2.1; omega
              obtain ⟨⟨gb, nb⟩, hb⟩ : ∃ b, bks[i]? = some b := ⟨bks[i], by simp [hib]⟩
              obtain ⟨g0, o0, rfl, hc⟩ := HR.out.1.cell hb
              have hbb := HR.out.1.blk i (gb, nb) hb
              have hbs : nb < 500 := HBK.out.2.1.small (gb, nb) (List.mem_of_getElem? hb)
              have HX := hid (And.intro hb hbb)
              clear hb hbb hib
              go_wp2_with
                (go_at_call 26
                 refine (over_any gb nb (f i) wr HX.out.2.2 HX.out.2.1 (by omega)).mono ?_
                 rintro e w11 ⟨l', rfl, hl', hb', hk'⟩
                 have hA' := HR.out.1.write HBK.out.2.1 HX.out.1 l' hl' hk' hb'
                 have H11 := hid (And.intro hA' (HR.out.2.trans (hk'.mono fun k _ e => ⟨(gb, nb), List.mem_of_getElem? HX.out.1, e⟩)))
                 clear hl' hb' hk' hA')
              go_roundg (gk - 1)
              case measure => omega
              case rel => exact ⟨i + 1, _, by omega, by go_num, H11.out.1, H11.out.2⟩
            · obtain rfl : i = 2 * k := by omega
              have hover : @OverB ⟨⟨w5.heap.size⟩⟩ w10 wr := @OverB.of_kept ⟨⟨w5.heap.size⟩⟩ _ _ _ HR.out.2 fun x hx => by
                obtain ⟨b, hb, rfl⟩ := hx
                refine ⟨HBK.out.2.2.2.2 b hb, ?_⟩
                obtain ⟨i, hi, rfl⟩ := List.getElem_of_mem hb
                exact ⟨_, _, (H10.out.1.blk i bks[i] (by simp [hi])).1⟩
              have hsO := @SnapAt.over ⟨⟨w5.heap.size⟩⟩ _ _ _ _ _ _ _ H10.out.2.1 hover
              have hrO := hover.1.rd H10.out.2.2.1 H10.out.2.2.2.1 (by decide)
              have hb2 : Below w2.heap.size w2 w10 := gro HW5.out H10.out.2.2.2.2
              have hbO : Below w2.heap.size w2 wr := HR.out.2.step hb2 hb2.size fun x hx ⟨b, hb, e⟩ => by have := HBK.out.2.2.2.1 b hb; omega
              have hpre := Rbs_pre n bs M
              rw [HBS.out.2.2.1.1] at hsO hpre
              have HO := hid (And.intro hsO (And.intro hrO (And.intro hbO (And.intro hpre HR.out.1))))
              clear hover hsO hrO hb2 hbO hpre H10 HR
              go_wp2_with (first
                | (go_at_call 28
                   refine (apart_any Aa (2 * k) ca bks f w16 HBK.out.2.2.1 HBK.out.2.1 (HO.out.2.2.2.2.grown H16.out) (by omega)).mono ?_
                   rintro e w17 ⟨rfl, hk17⟩
                   have H17 := hid hk17
                   clear hk17)
                | (go_at_call 12
                   refine (sameroots_any (Rl n gs k) (Rl_ok n HA.out.2.2.2.2.2 gs k (by omega)) (k + 1) (Rl_len n gs k) (by omega) Ar cr Ar2 cr2 w15 (HO.out.2.1.grown H15.out.1) H15.out.2).mono ?_
                   rintro e w16 ⟨rfl, hb16⟩
                   have H16 := hid (gro H15.out.1 hb16)
                   clear hb16)
                | (go_at_call 27
                   refine (rroots_any n HA.out.2.2.2.2.2 gs A2 k c2 L2 w14 H2.out.2.1 hkc (H2.out.2.2.2.1.grown (HO.out.2.2.1.trans (H14.out.mono HO.out.2.2.1.size))) (H2.out.2.2.2.2.1.grown (HO.out.2.2.1.trans (H14.out.mono HO.out.2.2.1.size))) (by omega) (fun e he => by have := H2.out.2.2.2.2.2 e he; omega)).mono ?_
                   rintro e w15 ⟨Ar2, cr2, rfl, hb15, hr15⟩
                   have H15 := hid (And.intro (gro H14.out hb15) hr15)
                   clear hb15 hr15)
                | (go_at_call 21
                   refine (@alike_any ⟨⟨w5.heap.size⟩⟩ S7 b7 n HA.out.2.2.2.2.1 HA.out.2.2.2.2.2 gs (Rbs n bs M) k (M + 1) A2 c2 L2 As cs w13 (@SnapAt.grown ⟨⟨w5.heap.size⟩⟩ _ _ _ _ _ _ _ HO.out.1 H13.out.1) HO.out.2.2.2.1 H2.out.2.1 (Rbs_len n bs M) (by omega) (by omega) hkc (H2.out.2.2.2.1.grown (HO.out.2.2.1.trans (H13.out.1.mono HO.out.2.2.1.size))) (H2.out.2.2.2.2.1.grown (HO.out.2.2.1.trans (H13.out.1.mono HO.out.2.2.1.size))) (by rw [Rbs_sz]; exact H13.out.2) (fun e he => by have := H2.out.2.2.2.2.2 e he; omega)).mono ?_
                   rintro e w14 ⟨rfl, hb14⟩
                   have H14 := hid (gro H13.out.1 hb14)
                   clear hb14)
                | (go_at_call 20
                   refine (docbuild_any n HA.out.2.2.2.2.1 HA.out.2.2.2.2.2 bs (Cu.firsts bs) A12 M c12 X12 w12 M HBS.out.2.1.symm H12.out.2.1 H12.out.2.2 HBS.out.2.2.2.2 (by rw [HBS.out.2.1]; exact HBS.out.2.2.2.1) (Nat.le_refl _) (fun h => absurd h (Nat.lt_irrefl _)) (fun b hb e he => by have := H2.out.2.2.2.2.2 e (by rw [← HBS.out.2.2.1.1]; exact List.mem_flatten.2 ⟨b, hb, he⟩); omega) (by omega) (by rw [HBS.out.2.2.1.1, H2.out.2.1]; omega)).mono ?_
                   rintro e w13 ⟨hb13, ⟨hlt13, -⟩ | ⟨-, Al, cl, As, cs, L13, rfl, -, -, -, hr13⟩⟩
                   · exact absurd hlt13 (Nat.lt_irrefl _)
                   have H13 := hid (And.intro (gro H12.out.1 hb13) hr13)
                   clear hb13 hr13)
                | (go_at_call 23
                   refine (cutupN bs M A2 Ac k c2 q cc L2 gs zs wr HBS.out.1 HBS.out.2.1.symm H2.out.2.1 HZ.out.1 (H2.out.2.2.2.1.grown HO.out.2.2.1) (H2.out.2.2.2.2.1.grown HO.out.2.2.1) (HZ.out.2.1.grown (gro H2.out.1 HO.out.2.2.1)) (by omega) hkc HZ.out.2.2).mono ?_
                   rintro e w12 ⟨A12, c12, X12, rfl, hb12, hr12, hx12⟩
                   have H12 := hid (And.intro hb12 (And.intro hr12 hx12))
                   clear hb12 hr12 hx12))
              go_ret
              exact ⟨rfl, gro H2.out.1 (H17.out.step (HO.out.2.2.1.trans (H16.out.mono HO.out.2.2.1.size)) (Nat.le_trans HO.out.2.2.1.size H16.out.size) fun x hx ⟨b, hb, e⟩ => by have := HBK.out.2.2.2.1 b hb; omega)⟩
theorem replaymemory_any (x : Int) (es : List Ent) (zs : List Int) (A Ac : Option Addr) (m c q cc : Nat) (L : List (List Value)) (w : World) (hw : Words w) (hm : es.length = m) (hA : Rd w A L.flatten) (hE : EntsAt w L es) (hq : zs.length = q) (hZ : Rd w Ac (zs.map fun z => .int .i64 z)) (hqb : q < 9223372036854775808) :
    Calls Tryz.prog 6 #[.int .i64 x, .slice A m c, .slice Ac q cc] w fun e w' => e = .returned (.bool true) ∧ Below w.heap.size w w' := by
  by_cases h200 : 200 < m
  · exact memory_short x A m c _ w hw h200
  · by_cases hx : 1 ≤ x ∧ x ≤ 32
    · obtain ⟨n, rfl⟩ := Int.eq_ofNat_of_zero_le (show 0 ≤ x by omega)
      exact memory_full n (by omega) (by omega) es zs A Ac m c q cc L w hw hm hA hE hq hZ hqb h200
    · exact memory_width x es A m c _ L w hw hm hA hE h200 hx
end Go.Proofs.YtpnakfeafekneaaGreatDoor
