/- Part 31 of this proof: V9, VA, VB, VC, VD, VE, VL, VM, VN. -/
import Derived.Test.YtpnakfeafekneaaGreatDoorG22
import Derived.Test.YtpnakfeafekneaaGreatDoorG30
set_option linter.unusedSimpArgs false
set_option linter.unusedVariables false
namespace Go.Proofs.YtpnakfeafekneaaGreatDoor
open Go.RowKit
set_option maxHeartbeats 4000000 in
set_option maxRecDepth 100000 in
theorem rootsT_any (n : Nat) (h1 : 1 ≤ n) (h2 : n ≤ 32) (es : List Ent) (A : Option Addr) (c : Nat) (L : List (List Value)) (w : World) (hw : Words w) (hA : Rd w A L.flatten) (hE : EntsAt w L es) (hn : es.length + 2 < 1048576) :
    Calls Tryz.prog 9 #[.int .i64 n, .slice A es.length c] w fun e w' => Below w.heap.size w w' ∧ ((En.all es ≠ 0 ∧ e = .returned (.tuple #[.slice none 0 0, .int .i64 (En.all es)])) ∨ (En.all es = 0 ∧ ∃ Ar cr, e = .returned (.tuple #[.slice Ar (es.length + 1) cr, .int .i64 0]) ∧ Rd w' Ar (rtRow (Rl n es es.length)).flatten ∧ Tyd w' 42 Ar)) := by
  have HA := hid (And.intro hw (And.intro hA hE))
  clear hw hA hE
  go_enter Tryz.func9, Tryz.ntmps9
  go_wp2_with (first
    | (go_at_call 38
       refine (snew_ok n h1 h2 w HA.out.1 (Lo.zero _)).mono ?_
       rintro e w2 ⟨q, rfl, hb2, hs2⟩
       have H2 := hid (And.intro hb2 hs2)
       clear hb2 hs2))
  go_loopg [7, 24] es.length (fun g s7 i wr => ∃ j e : Nat, j + g = es.length ∧ i = .int .i64 j ∧ s7 = .int .i64 e ∧ e < 4 ∧ e = (es.take j).foldl (fun e a => En.least e (En.check a)) 0 ∧ Below w2.heap.size w2 wr)
  case atStart => exact ⟨0, 0, by omega, rfl, rfl, by omega, rfl, Below.refl _ _⟩
  case round =>
    obtain ⟨j, ee, hj, rfl, rfl, helt, hee, hi⟩ := hrel
    have HI := hid (And.intro hee hi)
    clear hee hi
    by_cases hlt : j < es.length
    · obtain ⟨kind, key, val, hjj⟩ : ∃ kind key val, es[j]? = some ⟨kind, key, val⟩ := ⟨es[j].kind, es[j].key, es[j].val, by simp [hlt]⟩
      have hL := HA.out.2.2.len
      have hjl : j < L.length := by omega
      obtain ⟨g, o, rfl, hr⟩ := HA.out.2.1 (by
        intro e
        have := flatten_len 3 _ HA.out.2.2.three
        rw [e] at this
        simp at this; omega)
      have hp := range_part hr HA.out.2.2.three j hjl
      obtain ⟨A1, c1', A2, c2', hx, hr1, hr2, hc1, hc2⟩ := HA.out.2.2.at_ j L[j] ⟨kind, key, val⟩ (by simp [hjl]) hjj
      rw [hx] at hp
      simp only [] at hp
      have hlb := range_lt hp (by simp)
      have hp2 := range_below hp (gro H2.out.1 HI.out.2) hlb
      have hfold : (es.take (j + 1)).foldl (fun e a => En.least e (En.check a)) 0 = En.least ee (En.chk kind key.length val.length) := by
        rw [List.take_succ_eq_append_getElem hlt, List.foldl_append, ← HI.out.1, (List.getElem?_eq_some_iff.1 hjj).2]; rfl
      have hoc : ∀ v ∈ [b8 kind, .slice A1 key.length c1', .slice A2 val.length c2'], v.oneCell' = true := fun v hv => by
        simp only [List.mem_cons, List.not_mem_nil, or_false] at hv
        rcases hv with rfl | rfl | rfl <;> rfl
      have hclt := En.chk_lt kind key.length val.length
      have hcc : ∀ w', Calls Tryz.prog 39 #[.agg #[b8 kind, .slice A1 key.length c1', .slice A2 val.length c2']] w' fun e w'' => e = .returned (.int .i64 (En.chk kind key.length val.length)) ∧ Below w'.heap.size w' w'' := fun w' => check_e kind A1 A2 key.length c1' val.length c2' w'
      generalize En.chk kind key.length val.length = f at hcc hclt hfold
      have hp9 := (Blk.new wr 36 [b8 kind, .slice A1 key.length c1', .slice A2 val.length c2']).whole
      have HB := hid (gro HI.out.2 (below_box wr (.cells [b8 kind, .slice A1 key.length c1', .slice A2 val.length c2'].toArray 36)))
      have HC := hid hcc
      have HX := hid hfold
      clear hr hr1 hr2 hx hp hc1 hc2 hL hcc hfold hlb
      have hf4 : f = 0 ∨ f = 1 ∨ f = 2 ∨ f = 3 := by omega
      have he4 : ee = 0 ∨ ee = 1 ∨ ee = 2 ∨ ee = 3 := by omega
      clear hclt helt
      rcases hf4 with rfl | rfl | rfl | rfl <;> rcases he4 with rfl | rfl | rfl | rfl
      all_goals
        go_wp2_with (first
          | ((with_reducible refine ld_mid 36 (.tmp 26) g (o + j * 3) _ 3 _ rfl hp2 Tryz.underlying36 rfl (by kernel_rfl) ?_ ?_ ?_ ?_); rfl; rfl; rfl)
          | ((with_reducible refine st_new 36 (.tmp 9) (.tmp 27) _ _ [b8 kind, .slice A1 key.length c1', .slice A2 val.length c2'] 3 rfl ?_ (by kernel_rfl) hoc ?_ ?_ ?_ ?_ ?_); rfl; rfl; rfl; rfl; rfl)
          | ((with_reducible refine ld_mid 36 (.tmp 9) wr.heap.size 0 _ 3 _ rfl hp9 Tryz.underlying36 rfl (by kernel_rfl) ?_ ?_ ?_ ?_); rfl; rfl; rfl)
          | (go_at_call 39
             refine (HC.out _).mono ?_
             rintro e7 w7 ⟨rfl, hk⟩
             have H7 := hid (gro HB.out hk); clear hk))
        go_roundg (gk - 1)
        case measure => omega
        case rel => exact ⟨j + 1, _, by omega, by go_num, rfl, by decide, HX.out.symm, H7.out⟩
    · obtain rfl : j = es.length := by omega
      have hb := HI.out.1
      rw [List.take_length] at hb
      have hbf : ee = En.all es := hb
      clear hb
      have HZ := hid hbf
      clear hbf
      have he4 : ee = 0 ∨ ee = 1 ∨ ee = 2 ∨ ee = 3 := by omega
      clear helt
      have hbw : Below w.heap.size w wr := gro H2.out.1 HI.out.2
      have hsw := H2.out.2.grown HI.out.2
      have hl0 : ∀ x ∈ [rtCells (Sn.root n [])], x.length = 65 := fun x hx => by rw [List.mem_singleton] at hx; subst hx; exact hsw.len
      have HB := hid (And.intro hbw hsw)
      clear hbw hsw
      rcases he4 with rfl | rfl | rfl | rfl
      case inr.inl =>
        go_wp2_with fail
        go_ret2
        exact ⟨HB.out.1, .inl ⟨by rw [← HZ.out]; decide, by rw [← HZ.out]; rfl⟩⟩
      case inr.inr.inl =>
        go_wp2_with fail
        go_ret2
        exact ⟨HB.out.1, .inl ⟨by rw [← HZ.out]; decide, by rw [← HZ.out]; rfl⟩⟩
      case inr.inr.inr =>
        go_wp2_with fail
        go_ret2
        exact ⟨HB.out.1, .inl ⟨by rw [← HZ.out]; decide, by rw [← HZ.out]; rfl⟩⟩
      case inl =>
        go_wp2_with (first
          | (go_at_call 29
             refine (snroot_any wr HB.out.2 (by simp)).mono ?_
             rintro e w3 ⟨rfl, hb3⟩
             have H3 := hid hb3
             clear hb3)
          | ((with_reducible refine bs_own 24 42 1 #[(0, .tmp 47)] [rtCells (Sn.root n [])] 65 (by decide) hl0 rfl (by decide) (by decide) Tryz.underlying24 (by kernel_rfl) ?_ ?_ ?_ ?_); rfl; rfl; rfl))
        go_loopg [6, 7, 11, 51] es.length (fun g s6 s7 s11 i wq => ∃ (j q' S' : Nat) (Ar : Option Addr) (cr : Nat), j + g = es.length ∧ i = .int .i64 j ∧ s6 = ptr q' ∧ s7 = .int .i64 0 ∧ s11 = .slice Ar (j + 1 : Nat) cr ∧ SnapAt S' wq n q' (es.take j) (Rl n es j) ∧ wq.ownsRow w.heap.size 42 65 (.slice Ar (j + 1) cr) (j + 1) (rtRow (Rl n es j)).flatten ∧ Below w.heap.size w wq)
        case atStart =>
          refine ⟨0, q, w.heap.size, _, 1, by omega, rfl, rfl, rfl, rfl, ?_, ?_, gro HB.out.1 (gro H3.out (below_box _ _))⟩
          · rw [Rl_zero]; exact HB.out.2.grown (gro H3.out (below_box _ _))
          · rw [Rl_zero]
            have := own_lit w3 w.heap.size 42 65 (rtCells (Sn.root n [])) (by simpa using hl0 _ (List.mem_singleton.2 rfl)) (gro HB.out.1 H3.out).size
            simpa [rtRow] using this
        case round =>
          obtain ⟨j, q', S', Ar, cr, hj, rfl, rfl, rfl, rfl, hs, ho, hbl⟩ := hrel
          have HR := hid (And.intro hs (And.intro ho hbl))
          clear hs ho hbl
          by_cases hlt : j < es.length
          · obtain ⟨kind, key, val, hjj⟩ : ∃ kind key val, es[j]? = some ⟨kind, key, val⟩ := ⟨es[j].kind, es[j].key, es[j].val, by simp [hlt]⟩
            have hL := HA.out.2.2.len
            have hjl : j < L.length := by omega
            obtain ⟨g, o, rfl, hr⟩ := HA.out.2.1 (by
              intro e
              have := flatten_len 3 _ HA.out.2.2.three
              rw [e] at this
              simp at this; omega)
            have hp := range_part hr HA.out.2.2.three j hjl
            obtain ⟨A1, c1', A2, c2', hx, hr1, hr2, hc1, hc2⟩ := HA.out.2.2.at_ j L[j] ⟨kind, key, val⟩ (by simp [hjl]) hjj
            rw [hx] at hp
            simp only [] at hp
            have hlb := range_lt hp (by simp)
            have hp2 := range_below hp HR.out.2.2 hlb
            have hea : EntAt w [b8 kind, .slice A1 key.length c1', .slice A2 val.length c2'] ⟨kind, key, val⟩ := ⟨A1, c1', A2, c2', rfl, hr1, hr2, hc1, hc2⟩
            have hsub : es.take (j + 1) = es.take j ++ [⟨kind, key, val⟩] := by rw [List.take_succ_eq_append_getElem hlt, (List.getElem?_eq_some_iff.1 hjj).2]
            have hok := En.all_zero HZ.out.symm _ (List.mem_of_getElem? hjj)
            have hoc : ∀ v ∈ [b8 kind, .slice A1 key.length c1', .slice A2 val.length c2'], v.oneCell' = true := fun v hv => by
              simp only [List.mem_cons, List.not_mem_nil, or_false] at hv
              rcases hv with rfl | rfl | rfl <;> rfl
            have hap : ∀ (w' : World) (g' : Nat), Below w.heap.size w w' → SnapAt S' w' n q' (es.take j) (Rl n es j) → Rd w' (some ⟨g', 0, none⟩) [[b8 kind, .slice A1 key.length c1', .slice A2 val.length c2']].flatten → Calls Tryz.prog 40 #[ptr q', .agg #[.int .u64 j, .slice (some ⟨g', 0, none⟩) 1 1]] w' fun e w'' => ∃ b', e = .returned (.tuple #[ptr b', .int .i64 0]) ∧ Below w'.heap.size w' w'' ∧ SnapAt w'.heap.size w'' n b' (es.take (j + 1)) (Rl n es (j + 1)) := fun w' g' hb hs hr => by
              have := sapply_ok S' q' n h1 h2 (es.take j) [⟨kind, key, val⟩] (Rl n es j) (some ⟨g', 0, none⟩) 1 [[b8 kind, .slice A1 key.length c1', .slice A2 val.length c2']] w' (HA.out.1.below hb) hs hr ⟨rfl, fun i x p hx hp => by
                cases i with
                | zero => simp at hx hp; subst hx hp; exact hea.grown hb
                | succ i => simp at hx⟩ (by simp; omega) (by rw [Rl_len]; omega) (En.one_ok _ (by simp; omega) _ hok)
              rw [← hsub, ← Rl_succ, List.length_take, Nat.min_eq_left (by omega)] at this
              exact this
            have HAP := hid hap
            clear hap hr hr1 hr2 hx hp hsub hok hea hc1 hc2 hL hlb
            go_upto_region 17 with (first
              | ((with_reducible refine ld_mid 36 (.tmp 54) g (o + j * 3) _ 3 _ rfl hp2 Tryz.underlying36 rfl (by kernel_rfl) ?_ ?_ ?_ ?_); rfl; rfl; rfl)
              | ((with_reducible refine st_new 36 (.tmp 13) (.tmp 55) _ _ [b8 kind, .slice A1 key.length c1', .slice A2 val.length c2'] 3 rfl ?_ (by kernel_rfl) hoc ?_ ?_ ?_ ?_ ?_); rfl; rfl; rfl; rfl; rfl))
            refine wp_world (fun w' => w'.rangeAt wr.heap.size 0 [b8 kind, .slice A1 key.length c1', .slice A2 val.length c2'] ∧ Below wr.heap.size wr w') ⟨(Blk.new wr _ _).whole, below_box _ _⟩ ?_
            rintro wa ⟨hxr, hba⟩
            have HQ := hid hba
            clear hba hp2 hoc
            have hl3 : ∀ x ∈ [[b8 kind, .slice A1 key.length c1', .slice A2 val.length c2']], x.length = 3 := fun x hx => by rw [List.mem_singleton] at hx; subst hx; rfl
            have hwr : IntKind.u64.wrap (j : Int) = (j : Int) := by rw [IntKind.wrap_u64]; omega
            have hone : ∀ v ∈ [rtCells (Sn.root n (es.take (j + 1)))].flatten, v.oneCell' = true := fun v hv => rt_oc (Sn.root n (es.take (j + 1))) v (by simpa using hv)
            have h63 : j + 1 + 1 ≤ maxLen := by simp only [maxLen]; omega
            have hby : (j + 1 + 1) * 72 ≤ 140737488355328 := by omega
            go_wp2_with (first
              | ((with_reducible refine ld_mid 36 (.tmp 13) wr.heap.size 0 _ 3 _ rfl hxr Tryz.underlying36 rfl (by kernel_rfl) ?_ ?_ ?_ ?_); rfl; rfl; rfl)
              | ((with_reducible refine bs_own 22 36 1 #[(0, .tmp 60)] [[b8 kind, .slice A1 key.length c1', .slice A2 val.length c2']] 3 (by decide) hl3 rfl (by decide) (by decide) Tryz.underlying22 (by kernel_rfl) ?_ ?_ ?_ ?_); rfl; rfl; rfl)
              | (go_at_call 40
                 refine (HAP.out _ _ (gro HR.out.2.2 (gro HQ.out (below_box _ _))) (HR.out.1.grown (gro HQ.out (below_box _ _))) (Rd.of _ (Blk.new wa _ _).whole)).mono ?_
                 rintro e w7 ⟨q2, rfl, hb7, hs7⟩
                 have hsz := (gro HQ.out (below_box wa (.cells [[b8 kind, .slice A1 key.length c1', .slice A2 val.length c2']].flatten.toArray 36))).size
                 have H7 := hid (And.intro (gro (gro HQ.out (below_box _ _)) hb7) (And.intro hs7 hsz))
                 clear hb7 hs7 hsz)
              | (go_at_call 29
                 refine (snroot_any w7 H7.out.2.1 (by rw [Rl_len]; omega)).mono ?_
                 rintro e w8 ⟨rfl, hb8⟩
                 have hl65 : ∀ x ∈ [rtCells (Sn.root n (es.take (j + 1)))], x.length = 65 := (fun x hx => by rw [List.mem_singleton] at hx; subst hx; exact H7.out.2.1.len)
                 have hl65b : [rtCells (Sn.root n (es.take (j + 1)))].flatten.length = 1 * 65 := (by simpa using H7.out.2.1.len)
                 have hb89 := gro hb8 (below_box w8 (.cells [rtCells (Sn.root n (es.take (j + 1)))].flatten.toArray 42))
                 have own8 := own_grown HR.out.2.1 (gro H7.out.1 hb89)
                 have hr8 := Rd.of _ (Blk.new w8 42 [rtCells (Sn.root n (es.take (j + 1)))].flatten).whole
                 have hbs8 := (gro HR.out.2.2 (gro H7.out.1 hb89)).size
                 have H8 := hid (And.intro hb89 (And.intro own8 hr8))
                 clear hb8 hb89 own8 hr8)
              | ((with_reducible refine bs_own 24 42 1 #[(0, .tmp 71)] [rtCells (Sn.root n (es.take (j + 1)))] 65 (by decide) hl65 rfl (by decide) (by decide) Tryz.underlying24 (by kernel_rfl) ?_ ?_ ?_ ?_); rfl; rfl; rfl)
              | ((with_reducible refine ap_own (.tmp 69) (.tmp 72) 24 Tryz.underlying24 info_rt rfl (by decide) H8.out.2.1 1 1 hl65b H8.out.2.2 hone h63 hby hbs8 ?_ ?_ ?_ ?_ ?_); rfl; rfl; rfl; rfl
                 intro v9 w9 hn1 hn2 hn3 hn4
                 obtain ⟨A9, c9, rfl, hr9, hc9⟩ := rd_own hn1
                 have hs9 := (H7.out.2.1.grown H8.out.1).row H8.out.2.1 (fun k hk => Nat.lt_of_lt_of_le (HR.out.2.1.lt k hk).2 H7.out.2.2) hn2
                 have hb9 := grownBy_below H8.out.2.1 (gro HR.out.2.2 (gro H7.out.1 H8.out.1)) hbs8 hn2
                 have H9 := hid (And.intro hn1 (And.intro hs9 hb9))
                 clear hn1 hn2 hn3 hn4 hr9 hc9 hs9 hb9))
            go_roundg (gk - 1)
            case measure => omega
            case rel =>
              refine ⟨j + 1, q2, _, A9, c9, by omega, by go_num, rfl, rfl, rfl, H9.out.2.1, ?_, H9.out.2.2⟩
              rw [Rl_succ, rtRow_snoc]
              simpa using H9.out.1
          · obtain rfl : j = es.length := by omega
            obtain ⟨A9, c9, e9, hr9, -⟩ := rd_own HR.out.2.1
            simp only [Value.slice.injEq] at e9
            obtain ⟨rfl, -, rfl⟩ := e9
            have HE9 := hid (And.intro hr9 (own_tyd HR.out.2.1))
            clear hr9
            go_wp2_with fail
            go_ret2
            exact ⟨HR.out.2.2, .inr ⟨HZ.out.symm, Ar, cr, rfl, HE9.out⟩⟩
theorem roots_any (n : Nat) (h1 : 1 ≤ n) (h2 : n ≤ 32) (es : List Ent) (A : Option Addr) (c : Nat) (L : List (List Value)) (w : World) (hw : Words w) (hA : Rd w A L.flatten) (hE : EntsAt w L es) (hn : es.length + 2 < 1048576) :
    Calls Tryz.prog 9 #[.int .i64 n, .slice A es.length c] w fun e w' => Below w.heap.size w w' ∧ ((En.all es ≠ 0 ∧ e = .returned (.tuple #[.slice none 0 0, .int .i64 (En.all es)])) ∨ (En.all es = 0 ∧ ∃ Ar cr, e = .returned (.tuple #[.slice Ar (es.length + 1) cr, .int .i64 0]) ∧ Rd w' Ar (rtRow (Rl n es es.length)).flatten)) :=
  (rootsT_any n h1 h2 es A c L w hw hA hE hn).mono fun _ _ ⟨hb, h⟩ => ⟨hb, h.imp id fun ⟨h0, Ar, cr, e, hr, _⟩ => ⟨h0, Ar, cr, e, hr⟩⟩
end Go.Proofs.YtpnakfeafekneaaGreatDoor

namespace Go.Proofs.YtpnakfeafekneaaGreatDoor
open Go.RowKit
theorem made_b8 (k : Nat) : madeCells (Value.int .u8 0).cells (k * 1) = (List.replicate k (b8 0)).toArray := by
  apply Array.ext_getElem?
  intro i
  by_cases h : i < k
  · simp [madeCells, h, Value.cells, Nat.mod_one]
    rfl
  · rw [Array.getElem?_eq_none (by rw [size_madeCells]; omega), Array.getElem?_eq_none (by simp; omega)]
theorem make_bytes (k : Nat) (hk : k ≤ 140737488355328) (w : World) : (Instr.makeSlice 34 (.int .i64 k) (.int .i64 k)).run Tryz.prog w = .ok (.slice (some ⟨w.heap.size, 0, none⟩) k k) (w.alloc (.cells (List.replicate k (b8 0)).toArray 5)) := by
  obtain ⟨i, hi, hz, hsize, hby⟩ := info_parts info_u8
  have := run_make (P := Tryz.prog) w 34 5 i (.int .u8 0) Tryz.underlying34 hi hz .i64 .i64 k k (by omega) (by omega) (by rw [hby]; omega) (by omega)
  rw [this]
  simp only [Int.toNat_natCast, hsize, made_b8]
set_option maxRecDepth 100000 in
theorem twin1_any (A : Option Addr) (c : Nat) (l : List UInt8) (w : World) (h : Rd w A (l.map b8)) (hl : l.length ≤ 140737488355328) :
    Calls Tryz.prog 15 #[.slice A l.length c] w fun e w' => NewSl 5 w l.length (l.map b8) e w' := by
  have hmk := make_bytes l.length hl
  have hb := Blk.new w 5 (List.replicate l.length (b8 0))
  have hr := h.grown (below_box w (.cells (List.replicate l.length (b8 0)).toArray 5))
  have hbl := below_box w (.cells (List.replicate l.length (b8 0)).toArray 5)
  rw [List.toArray_replicate] at hb hr hbl
  have HB := hid (And.intro hb (And.intro hr hbl))
  clear hb hr h hbl
  go_enter Tryz.func15, Tryz.ntmps15
  go_wp2_with (first
    | ((with_reducible refine wpList_copy_blk ?_ (.tmp 7) (.tmp 8) 34 34 ?_ _ Tryz.underlying34 ?_ (some ⟨w.heap.size, 0, none⟩) A l.length l.length l.length c ?_ ?_ w.heap.size 0 _ _ HB.out.1 (l.map b8) ?_ ?_ HB.out.2.1 ?_ (one_b8 _) ?_); rfl; rfl; kernel_rfl; rfl; rfl; simp; (intro _; rfl); simp
       intro w2 hb2 hk2
       have H2 := hid (And.intro hb2 hk2)
       clear hb2 hk2))
  go_ret
  have hbk := H2.out.1
  rw [splice_whole _ _ (by simp)] at hbk
  have hbl : Below w.heap.size w w2 := Kept.step (S := (· = w.heap.size)) HB.out.2.2 H2.out.2 (by simp) (fun k hk e => by omega)
  exact ⟨_, _, rfl, hbl, Rd.of _ hbk.whole, Nat.le_refl _, fun a e => by cases e; exact Nat.le_refl _, hbk.tyd⟩
end Go.Proofs.YtpnakfeafekneaaGreatDoor

namespace Go.Proofs.YtpnakfeafekneaaGreatDoor
open Go.RowKit
theorem stay_e {w : World} {g : Nat} {cs : List Value} (h : Blk w g 36 cs) (i : Nat) (u : Value) : Stay PureT w (w.setCell ⟨g, i, none⟩ u) := stay_set h (by decide) i u
set_option maxHeartbeats 1000000 in
set_option maxRecDepth 100000 in
theorem twinE_any (x : List Value) (e : Ent) (w : World) (h : EntAt w x e) (hk : e.key.length ≤ 140737488355328) (hv : e.val.length ≤ 140737488355328) :
    Calls Tryz.prog 41 #[.agg x.toArray] w fun ee w' => ∃ y, ee = .returned (.agg y.toArray) ∧ Below w.heap.size w w' ∧ EntTy w' y e := by
  obtain ⟨A1, c1, A2, c2, rfl, h1, h2, h3, h4⟩ := h
  have hkc : ∀ w', Below w.heap.size w w' → Calls Tryz.prog 15 #[.slice A1 e.key.length c1] w' (NewSl 5 w' e.key.length (e.key.map b8)) := fun w' hb => twin1_any A1 c1 e.key w' (h1.grown hb) (by omega)
  have hvc : ∀ w', Below w.heap.size w w' → Calls Tryz.prog 15 #[.slice A2 e.val.length c2] w' (NewSl 5 w' e.val.length (e.val.map b8)) := fun w' hb => twin1_any A2 c2 e.val w' (h2.grown hb) (by omega)
  have HK := hid hkc
  have HV := hid hvc
  clear hkc hvc h1 h2 h3 h4
  have hb1 := Blk.new w 36 [b8 e.kind, .slice A1 e.key.length c1, .slice A2 e.val.length c2]
  have hb2 := Blk.new (w.alloc (.cells #[b8 e.kind, .slice A1 e.key.length c1, .slice A2 e.val.length c2] 36)) 36 [.int .u8 0, .slice none 0 0, .slice none 0 0]
  rw [show (w.alloc (.cells #[b8 e.kind, .slice A1 e.key.length c1, .slice A2 e.val.length c2] 36)).heap.size = w.heap.size + 1 by simp] at hb2
  have HB0 := hid (And.intro (hb1.alloc (.cells #[.int .u8 0, .slice none 0 0, .slice none 0 0] 36)) (And.intro hb2 (gro (below_box w (.cells #[b8 e.kind, .slice A1 e.key.length c1, .slice A2 e.val.length c2] 36)) (below_box _ (.cells #[.int .u8 0, .slice none 0 0, .slice none 0 0] 36)))))
  clear hb1 hb2
  go_enter Tryz.func41, Tryz.ntmps41
  go_upto_region 1 with fail
  refine wp_world (fun w' => Blk w' w.heap.size 36 [b8 e.kind, .slice A1 e.key.length c1, .slice A2 e.val.length c2] ∧ Blk w' (w.heap.size + 1) 36 [.int .u8 0, .slice none 0 0, .slice none 0 0] ∧ Below w.heap.size w w') HB0.out ?_
  rintro w1 ⟨hb1, hb2, hbl⟩
  have HS : ∀ w', Blk w' w.heap.size 36 [b8 e.kind, .slice A1 e.key.length c1, .slice A2 e.val.length c2] → w'.cell? ⟨w.heap.size, 0, none⟩ = some (b8 e.kind) ∧ w'.cell? ⟨w.heap.size, 1, none⟩ = some (.slice A1 e.key.length c1) ∧ w'.cell? ⟨w.heap.size, 2, none⟩ = some (.slice A2 e.val.length c2) := fun w' h => ⟨by rw [h.cell]; rfl, by rw [h.cell]; rfl, by rw [h.cell]; rfl⟩
  have hd : Below w1.heap.size w1 w1.drew := (Below.refl _ _).drew
  have HT := hid (And.intro HS (And.intro hd (And.intro hb1 (And.intro hb2 hbl))))
  clear HS hd hb1 hb2 hbl HB0
  go_region_held3 (fun w' => w'.cell? ⟨w.heap.size, 0, none⟩ = some (b8 e.kind) ∧ w'.cell? ⟨w.heap.size, 1, none⟩ = some (.slice A1 e.key.length c1) ∧ w'.cell? ⟨w.heap.size, 2, none⟩ = some (.slice A2 e.val.length c2))
    (first | exact HT.out.1 _ (HT.out.2.2.1.grown HT.out.2.1) | exact HT.out.1 _ (HT.out.2.2.1.grown H5.out.1) | exact HT.out.1 _ (HT.out.2.2.1.grown K4.out.1) | exact HT.out.1 _ (HN.out.1 _ _ _) | exact HT.out.1 _ (HT.out.2.2.1.grown V4.out.1))
    (first
      | (go_at_call 15
         with_reducible refine Calls.mono (HV.out _ (gro HT.out.2.2.2.2 K4.out.1)) ?_
         rintro ee w5 ⟨A6, c6, rfl, hb5, hr6, hc6, -, ht6⟩
         have H5 := hid (And.intro (gro K4.out.1 hb5) (And.intro (K4.out.2.1.grown hb5) (And.intro hr6 (And.intro K4.out.2.2.1 (And.intro hc6 (And.intro (K4.out.2.2.2.grown hb5) ht6))))))
         have hbx := (HT.out.2.2.2.1.grown H5.out.1)
         have k0 : w5.cell? ⟨w.heap.size + 1, 0, none⟩ = some (.int .u8 0) := (by rw [hbx.cell]; rfl)
         have k1 : w5.cell? ⟨w.heap.size + 1, 1, none⟩ = some (.slice none 0 0) := (by rw [hbx.cell]; rfl)
         have k2 : w5.cell? ⟨w.heap.size + 1, 2, none⟩ = some (.slice none 0 0) := (by rw [hbx.cell]; rfl)
         have f0 := hbx.frozen 0
         have f1 := hbx.frozen 1
         have f2 := hbx.frozen 2
         have hS3 : ∀ u v t, Blk (((w5.setCell ⟨w.heap.size + 1, 0, none⟩ u).setCell ⟨w.heap.size + 1, 1, none⟩ v).setCell ⟨w.heap.size + 1, 2, none⟩ t) w.heap.size 36 [b8 e.kind, .slice A1 e.key.length c1, .slice A2 e.val.length c2] := (fun u v t => (((HT.out.2.2.1.grown H5.out.1).far (by show w.heap.size ≠ w.heap.size + 1; omega) u).far (by show w.heap.size ≠ w.heap.size + 1; omega) v).far (by show w.heap.size ≠ w.heap.size + 1; omega) t)
         have HN := hid (And.intro hS3 hbx)
         clear hb5 hr6 hc6 ht6 hbx hS3)
      | (go_at_call 15
         with_reducible refine Calls.mono (HK.out _ (gro HT.out.2.2.2.2 V4.out.1)) ?_
         rintro ee w5 ⟨A5, c5, rfl, hb5, hr6, hc6, -, ht6⟩
         have H5 := hid (And.intro (gro V4.out.1 hb5) (And.intro hr6 (And.intro (V4.out.2.1.grown hb5) (And.intro hc6 (And.intro V4.out.2.2.1 (And.intro ht6 (V4.out.2.2.2.grown hb5)))))))
         have hbx := (HT.out.2.2.2.1.grown H5.out.1)
         have k0 : w5.cell? ⟨w.heap.size + 1, 0, none⟩ = some (.int .u8 0) := (by rw [hbx.cell]; rfl)
         have k1 : w5.cell? ⟨w.heap.size + 1, 1, none⟩ = some (.slice none 0 0) := (by rw [hbx.cell]; rfl)
         have k2 : w5.cell? ⟨w.heap.size + 1, 2, none⟩ = some (.slice none 0 0) := (by rw [hbx.cell]; rfl)
         have f0 := hbx.frozen 0
         have f1 := hbx.frozen 1
         have f2 := hbx.frozen 2
         have hS3 : ∀ u v t, Blk (((w5.setCell ⟨w.heap.size + 1, 0, none⟩ u).setCell ⟨w.heap.size + 1, 1, none⟩ v).setCell ⟨w.heap.size + 1, 2, none⟩ t) w.heap.size 36 [b8 e.kind, .slice A1 e.key.length c1, .slice A2 e.val.length c2] := (fun u v t => (((HT.out.2.2.1.grown H5.out.1).far (by show w.heap.size ≠ w.heap.size + 1; omega) u).far (by show w.heap.size ≠ w.heap.size + 1; omega) v).far (by show w.heap.size ≠ w.heap.size + 1; omega) t)
         have HN := hid (And.intro hS3 hbx)
         clear hb5 hr6 hc6 ht6 hbx hS3)
      | (go_at_call 15
         with_reducible refine Calls.mono (HK.out _ (gro HT.out.2.2.2.2 HT.out.2.1)) ?_
         rintro ee w4 ⟨A5, c5, rfl, hb5, hr6, hc6, -, ht6⟩
         have K4 := hid (And.intro (gro HT.out.2.1 hb5) (And.intro hr6 (And.intro hc6 ht6)))
         clear hb5 hr6 hc6 ht6)
      | (go_at_call 15
         with_reducible refine Calls.mono (HV.out _ (gro HT.out.2.2.2.2 HT.out.2.1)) ?_
         rintro ee w4 ⟨A6, c6, rfl, hb5, hr6, hc6, -, ht6⟩
         have V4 := hid (And.intro (gro HT.out.2.1 hb5) (And.intro hr6 (And.intro hc6 ht6)))
         clear hb5 hr6 hc6 ht6))
  all_goals
    go_wp2_with fail
    have hb3 := ((HN.out.2.set_ 0 (b8 e.kind)).set_ 1 (.slice A5 e.key.length c5)).set_ 2 (.slice A6 e.val.length c6)
    have hbl := (((gro HT.out.2.2.2.2 H5.out.1).setCell (p := ⟨w.heap.size + 1, 0, none⟩) (Nat.le_succ _) (b8 e.kind)).setCell (p := ⟨w.heap.size + 1, 1, none⟩) (Nat.le_succ _) (.slice A5 e.key.length c5)).setCell (p := ⟨w.heap.size + 1, 2, none⟩) (Nat.le_succ _) (.slice A6 e.val.length c6)
    have hst := ((stay_e HN.out.2 0 (b8 e.kind)).trans (stay_e (HN.out.2.set_ 0 (b8 e.kind)) 1 (.slice A5 e.key.length c5))).trans (stay_e ((HN.out.2.set_ 0 (b8 e.kind)).set_ 1 (.slice A5 e.key.length c5)) 2 (.slice A6 e.val.length c6))
    have het : EntTy w5 [b8 e.kind, .slice A5 e.key.length c5, .slice A6 e.val.length c6] e := ⟨A5, c5, A6, c6, rfl, H5.out.2.1, H5.out.2.2.1, H5.out.2.2.2.1, H5.out.2.2.2.2.1, TyB.zero H5.out.2.2.2.2.2.1, TyB.zero H5.out.2.2.2.2.2.2⟩
    exact rt_cell (w.heap.size + 1) 0 [b8 e.kind, .slice A5 e.key.length c5, .slice A6 e.val.length c6] 3 _ rfl hb3.whole Tryz.underlying36 rfl (by kernel_rfl) rfl rfl rfl ⟨_, rfl, hbl, het.stay hst⟩
end Go.Proofs.YtpnakfeafekneaaGreatDoor

namespace Go.Proofs.YtpnakfeafekneaaGreatDoor
open Go.RowKit
end Go.Proofs.YtpnakfeafekneaaGreatDoor

namespace Go.Proofs.YtpnakfeafekneaaGreatDoor
open Go.RowKit
theorem En.chk_vals (k : UInt8) (a b : Nat) : En.chk k a b = 0 ∨ En.chk k a b = 2 ∨ En.chk k a b = 3 := by unfold En.chk; split <;> (try split) <;> simp
theorem En.fold_two : ∀ (es : List Ent) (e : Nat), (e = 0 ∨ e = 2 ∨ e = 3) → (e = 2 ∨ ∃ a ∈ es, En.check a = 2) → es.foldl (fun e a => En.least e (En.check a)) e = 2
  | [], e, _, h => by rcases h with h | ⟨a, ha, _⟩; exact h; cases ha
  | a :: es, e, he, h => by
    rw [List.foldl_cons]
    have hv := En.chk_vals a.kind a.key.length a.val.length
    have hc : En.check a = En.chk a.kind a.key.length a.val.length := rfl
    refine En.fold_two es _ ?_ ?_
    · rw [hc]; unfold En.least; rcases he with rfl | rfl | rfl <;> rcases hv with h | h | h <;> rw [h] <;> decide
    · rcases h with rfl | ⟨x, hx, hx2⟩
      · left; rw [hc]; rcases hv with h | h | h <;> rw [h] <;> decide
      · rcases List.mem_cons.1 hx with rfl | hx
        · left; rw [hx2]; rcases he with rfl | rfl | rfl <;> decide
        · exact .inr ⟨x, hx, hx2⟩
end Go.Proofs.YtpnakfeafekneaaGreatDoor

namespace Go.Proofs.YtpnakfeafekneaaGreatDoor
open Go.RowKit
theorem rwidth_raw (x : Int) (w : World) : Calls Tryz.prog 14 #[.int .i64 x] w fun e w' => e = .returned (.bool (if 1 ≤ x ∧ x ≤ 32 then true else false)) ∧ w = w' := by
  by_cases h1 : 1 ≤ x
  · by_cases h2 : x ≤ 32
    · have hd : (if 1 ≤ x ∧ x ≤ 32 then true else false) = true := if_pos ⟨h1, h2⟩
      rw [hd]; clear hd
      go_enter Tryz.func14, Tryz.ntmps14
      go_wp2_with fail
      go_ret
      exact ⟨rfl, rfl⟩
    · have hd : (if 1 ≤ x ∧ x ≤ 32 then true else false) = false := if_neg (fun h => h2 h.2)
      rw [hd]; clear hd
      go_enter Tryz.func14, Tryz.ntmps14
      go_wp2_with fail
      go_ret
      exact ⟨rfl, rfl⟩
  · have hd : (if 1 ≤ x ∧ x ≤ 32 then true else false) = false := if_neg (fun h => h1 h.1)
    rw [hd]; clear hd
    go_enter Tryz.func14, Tryz.ntmps14
    go_wp2_with fail
    go_ret
    exact ⟨rfl, rfl⟩
end Go.Proofs.YtpnakfeafekneaaGreatDoor

namespace Go.Proofs.YtpnakfeafekneaaGreatDoor
open Go.RowKit
def Nb (w : World) (l : List UInt8) (e : Ending) (w' : World) : Prop := ∃ A c n, l.length = n ∧ e = .returned (.slice A n c) ∧ Below w.heap.size w w' ∧ w'.ownsRow w.heap.size 5 1 (.slice A n c) n (l.map b8)
theorem own_rd {w : World} {B : Nat} {t : TypeId} {s : Nat} {A : Option Addr} {n c k : Nat} {xs : List Value} (h : w.ownsRow B t s (.slice A n c) k xs) : Rd w A xs ∧ n ≤ c := by
  obtain ⟨A', c', e, h1, h2⟩ := rd_own h
  cases e
  exact ⟨h1, h2⟩
theorem make_cap (k : Nat) (hk : k < 1099511627776) (w : World) : (Instr.makeSlice 34 (.int .i64 0) (.int .i64 k)).run Tryz.prog w = .ok (.slice (some ⟨w.heap.size, 0, none⟩) 0 k) (w.alloc (.cells (List.replicate k (b8 0)).toArray 5)) := by
  obtain ⟨i, hi, hz, hsize, hby⟩ := info_parts info_u8
  have := run_make (P := Tryz.prog) w 34 5 i (.int .u8 0) Tryz.underlying34 hi hz .i64 .i64 0 k (by omega) (by omega) (by rw [hby]; omega) (by omega)
  rw [this]
  simp only [Int.toNat_natCast, hsize, made_b8]
  rfl
theorem own_cap (w : World) (k : Nat) (hk : k < 1099511627776) (B : Nat) (hB : B ≤ w.heap.size) : (w.alloc (.cells (List.replicate k (b8 0)).toArray 5)).ownsRow B 5 1 (.slice (some ⟨w.heap.size, 0, none⟩) 0 k) 0 [] :=
  ⟨rfl, .inr ⟨_, k, _, rfl, hB, heap_alloc_new _ _, Nat.zero_le _, by unfold maxLen; omega, by simp, by simp⟩⟩
theorem ap_bytes {ops : Array Oper} {rest : List Oper} {o : Oper} {a : Act} {w w0 : World} {Q : Exit → Act → World → Prop} (s x : Operand) {base n : Nat} {v : Value} {l : List UInt8} (hown : w.ownsRow base 5 1 v n (l.map b8)) (A : Option Addr) (m c N : Nat) (hN : N = n + m) (p : List UInt8) (hm : p.length = m) (hr : Rd w A (p.map b8))
    (hlen : n + m < 70368744177664) (hbl : Below base w0 w) (hbase : base ≤ w.heap.size)
    (hgd : o.guard = none) (ho : o.op = .call { callee := .builtin .append, args := #[s, x], argTypes := #[34, 34] }) (hs : a.eval s = v) (hx : a.eval x = .slice A m c)
    (h : ∀ A' c' w', w'.ownsRow base 5 1 (.slice A' N c') N ((l ++ p).map b8) → Below base w0 w' → wpList Tryz.prog ops Q rest (a.put o.dst (.slice A' N c')) w') : wpList Tryz.prog ops Q (o :: rest) a w := by
  subst hN
  refine ap_own s x 34 Tryz.underlying34 info_u8 rfl (by decide) hown m c (by simp [hm]) hr (one_b8 p) (by unfold maxLen; omega) (by omega) hbase hgd ho hs hx ?_
  intro v' w' h1 h2 _ _
  obtain ⟨A', c', rfl, _, _⟩ := rd_own h1
  refine h A' c' w' ?_ (grownBy_below hown hbl hbase h2)
  rw [List.map_append]; exact h1
set_option maxRecDepth 100000 in
theorem join_any (A1 : Option Addr) (n1 c1 : Nat) (l1 : List UInt8) (A2 : Option Addr) (n2 c2 : Nat) (l2 : List UInt8) (w : World) (hn1 : l1.length = n1) (hn2 : l2.length = n2) (h1 : Rd w A1 (l1.map b8)) (h2 : Rd w A2 (l2.map b8)) (hl : n1 + n2 < 1099511627776) :
    Calls Tryz.prog 148 #[.slice A1 n1 c1, .slice A2 n2 c2] w (Nb w (l1 ++ l2)) := by
  obtain ⟨N, hN⟩ : ∃ N, N = n1 + n2 := ⟨_, rfl⟩
  have hw : IntKind.i64.wrap ((n1 : Int) + (n2 : Int)) = (N : Int) := by rw [IntKind.wrap_i64]; omega
  have hmk := make_cap N (by omega)
  have hown := own_cap w N (by omega) w.heap.size (Nat.le_refl _)
  have hbl := below_box w (.cells (List.replicate N (b8 0)).toArray 5)
  rw [List.toArray_replicate] at hbl hown
  have HH := hid (And.intro hn1 (And.intro hn2 (And.intro h1 (And.intro h2 (And.intro hl (And.intro hown (And.intro hbl hN)))))))
  clear hn1 hn2 h1 h2 hl hown hbl hN
  go_enter Tryz.func148, Tryz.ntmps148
  go_wp2_with (first
    | ((with_reducible refine ap_bytes (l := []) (.tmp 12) (.tmp 13) HH.out.2.2.2.2.2.1 A1 n1 c1 n1 (Nat.zero_add n1).symm l1 HH.out.1 (HH.out.2.2.1.grown HH.out.2.2.2.2.2.2.1) (by have := HH.out.2.2.2.2.1; omega) HH.out.2.2.2.2.2.2.1 HH.out.2.2.2.2.2.2.1.size ?_ ?_ ?_ ?_ ?_); rfl; rfl; rfl; rfl
       intro A3 c3 w3 ho3 hb3
       have H3 := hid (And.intro ho3 hb3)
       clear ho3 hb3)
    | ((with_reducible refine ap_bytes (.tmp 15) (.tmp 16) H3.out.1 A2 n2 c2 (n1 + n2) rfl l2 HH.out.2.1 (HH.out.2.2.2.1.grown H3.out.2) (by have := HH.out.2.2.2.2.1; omega) H3.out.2 H3.out.2.size ?_ ?_ ?_ ?_ ?_); rfl; rfl; rfl; rfl
       intro A4 c4 w4 ho4 hb4
       have H4 := hid (And.intro ho4 hb4)
       clear ho4 hb4))
  go_ret
  exact ⟨A4, c4, _, by rw [List.length_append, HH.out.1, HH.out.2.1], rfl, H4.out.2, H4.out.1⟩
theorem uv_high2 (v : Nat) : (v : Int) % 128 + 128 = n8 (Wi.hi7 v) := by
  unfold n8 Wi.hi7
  rw [UInt8.toNat_ofNat']
  omega
set_option maxRecDepth 100000 in
theorem ruvar_any (v : Nat) (w : World) (hv : v < 18446744073709551616) : Calls Tryz.prog 193 #[.int .u64 v] w (Nb w (Wi.uvar v)) := by
  have hvl := Wi.uvar_length 9 v (by omega)
  have HV := hid hv
  clear hv
  go_enter Tryz.func193, Tryz.ntmps193
  go_wp2_with fail
  go_loopg [0, 3] v (fun g s0 s3 wr => ∃ x A c n, s0 = .int .u64 g ∧ s3 = .slice A n c ∧ x.length = n ∧ Wi.uvar v = x ++ Wi.uvar g ∧ wr.ownsRow w.heap.size 5 1 (.slice A n c) n (x.map b8) ∧ Below w.heap.size w wr ∧ g ≤ v)
  case atStart => exact ⟨[], none, 0, 0, rfl, rfl, rfl, rfl, World.ownsRow_nil _ _ _ _, Below.refl _ _, Nat.le_refl _⟩
  case round =>
    obtain ⟨x, A, c, n, rfl, rfl, hn, hx, ho, hb, hgv⟩ := hrel
    have hxl : n ≤ (Wi.uvar v).length := by rw [hx]; simp [hn]
    have hb2 := gro (Below.refl _ _) (below_box wr (.cells #[b8 (Wi.lo7 gk)] 5))
    have HI := hid (And.intro hn (And.intro hx (And.intro ho hb)))
    clear hn hx ho hb hb2
    by_cases hlt : gk < 128
    · have hv := uv_low gk hlt
      have hown := own_grown HI.out.2.2.1 (below_box wr (.cells #[b8 (Wi.lo7 gk)] 5))
      have hbl := hid (gro HI.out.2.2.2 (below_box wr (.cells #[b8 (Wi.lo7 gk)] 5)))
      have HO := hid hown
      clear hown
      go_wp2_with (
        (rw [hv]
         (with_reducible refine ap_bytes (.tmp 15) (.tmp 18) HO.out _ 1 1 (n + 1) rfl [Wi.lo7 gk] rfl (rd_box wr _) (by omega) hbl.out hbl.out.size ?_ ?_ ?_ ?_ ?_); rfl; rfl; rfl; rfl
         intro A3 c3 w3 ho3 hb3
         have H3 := hid (And.intro ho3 hb3)
         clear ho3 hb3))
      go_ret
      exact ⟨A3, c3, _, by rw [HI.out.2.1, Wi.uvar_low gk hlt, List.length_append, HI.out.1]; rfl, rfl, H3.out.2, by rw [HI.out.2.1, Wi.uvar_low gk hlt]; exact H3.out.1⟩
    · have hv := uv_high2 gk
      have hown := own_grown HI.out.2.2.1 (below_box wr (.cells #[b8 (Wi.hi7 gk)] 5))
      have hbl := hid (gro HI.out.2.2.2 (below_box wr (.cells #[b8 (Wi.hi7 gk)] 5)))
      have HO := hid hown
      clear hown
      go_wp2_with (
        ((try rw [hv]); (with_reducible refine ap_bytes (.tmp 6) (.tmp 11) HO.out _ 1 1 (n + 1) rfl [Wi.hi7 gk] rfl (rd_box wr _) (by omega) hbl.out hbl.out.size ?_ ?_ ?_ ?_ ?_); rfl; rfl; rfl; rfl
         intro A3 c3 w3 ho3 hb3
         have H3 := hid (And.intro ho3 hb3)
         clear ho3 hb3))
      go_roundg (gk / 128)
      case measure => omega
      case rel =>
        have hgk : gk < 18446744073709551616 := by have := HV.out; omega
        refine ⟨x ++ [Wi.hi7 gk], A3, c3, n + 1, by rw [IntKind.wrap_u64]; congr 1; omega, rfl, by simp [HI.out.1], ?_, H3.out.1, H3.out.2, by omega⟩
        rw [List.append_assoc, List.singleton_append, ← Wi.uvar_high gk hlt]; exact HI.out.2.1
end Go.Proofs.YtpnakfeafekneaaGreatDoor

namespace Go.Proofs.YtpnakfeafekneaaGreatDoor
open Go.RowKit
theorem own_blk {w : World} {g B k : Nat} {l : List UInt8} (h : Blk w g 5 (l.map b8)) (hk : l.length = k) (hB : B ≤ g) (hm : k < 1099511627776) : w.ownsRow B 5 1 (.slice (some ⟨g, 0, none⟩) k k) k (l.map b8) :=
  ⟨by simp [hk], .inr ⟨g, k, _, rfl, hB, h, Nat.le_refl _, by unfold maxLen; omega, by simp [hk], by rw [List.toList_toArray, List.take_of_length_le (by simp [hk])]⟩⟩
theorem rblob_any (A : Option Addr) (n c : Nat) (l : List UInt8) (w : World) (hn : l.length = n) (h : Rd w A (l.map b8)) (hl : n < 549755813888) :
    Calls Tryz.prog 149 #[.slice A n c] w (Nb w (Wi.blob l)) := by
  have hul := Wi.uvar_length 9 n (by omega)
  have HH := hid (And.intro hn (And.intro h hul))
  clear hn h hul
  go_enter Tryz.func149, Tryz.ntmps149
  go_wp2_with (first
    | (go_at_call 148
       refine (join_any A1 n1 c1 (Wi.uvar n) A n c l w1 H1.out.1 HH.out.1 (own_rd H1.out.2.2).1 (HH.out.2.1.grown H1.out.2.1) (by have := HH.out.2.2; have := H1.out.1; omega)).mono ?_
       rintro e w2 ⟨A2, c2, n2, hn2, rfl, hb2, ho2⟩
       have H2 := hid (And.intro hn2 (And.intro hb2 ho2))
       clear hn2 hb2 ho2)
    | (go_at_call 193
       refine (ruvar_any n _ (by omega)).mono ?_
       rintro e w1 ⟨A1, c1, n1, hn1, rfl, hb1, ho1⟩
       have H1 := hid (And.intro hn1 (And.intro hb1 ho1))
       clear hn1 hb1 ho1))
  go_ret
  have e : Wi.blob l = Wi.uvar n ++ l := by unfold Wi.blob; rw [HH.out.1]
  exact ⟨A2, c2, n2, by rw [e]; exact H2.out.1, rfl, gro H1.out.2.1 H2.out.2.1, by rw [e]; exact own_base H2.out.2.2 (fun k hk => Nat.le_trans H1.out.2.1.size ((H2.out.2.2.lt k hk).1))⟩
def WdF (v k g : Nat) (i : Nat) : Value := if g ≤ i then b8 (Wi.wbyte v (k - 1 - i)) else b8 0
theorem wide_next {w : World} {b v k g : Nat} (h : w.rowIs b 5 k (WdF v k (g + 1))) (hg : g < k) : (w.setCell ⟨b, g, none⟩ (b8 (Wi.wbyte v (k - (g + 1))))).rowIs b 5 k (WdF v k g) := by
  rw [show k - (g + 1) = k - 1 - g from by omega]
  refine (h.set g _).congr fun i hi => ?_
  unfold WdF
  by_cases h1 : i = g
  · subst h1; rw [if_pos rfl, if_pos (Nat.le_refl _)]
  · rw [if_neg h1]
    by_cases h2 : g ≤ i
    · rw [if_pos h2, if_pos (by omega)]
    · rw [if_neg h2, if_neg (by omega)]
theorem wide_val (v k g : Nat) (hg : g < k) : ((v / 256 ^ (k - 1 - g) : Nat) : Int) % 256 = n8 (Wi.wbyte v (k - 1 - g)) := by
  rw [← wbyte_val, show (256 : Nat) = 2 ^ 8 from rfl, ← Nat.pow_mul]
  push_cast
  rfl
set_option maxRecDepth 100000 in
theorem rwide_any (v k : Nat) (w : World) (hv : v < 18446744073709551616) (hk : k ≤ 8) : Calls Tryz.prog 214 #[.int .u64 v, .int .i64 k] w (Nb w (Wi.wide v k)) := by
  have hmk := make_bytes k (by omega)
  have hrow : (w.alloc (.cells (List.replicate k (b8 0)).toArray 5)).rowIs w.heap.size 5 k (WdF v k k) := row_of_blk (Blk.new w _ (List.replicate k (b8 0))) (by simp) (fun i hi => by rw [List.getElem?_replicate, if_pos hi]; unfold WdF; rw [if_neg (by omega)])
  have hbl := below_box w (.cells (List.replicate k (b8 0)).toArray 5)
  rw [List.toArray_replicate] at hbl hrow
  have HH := hid (And.intro hrow (And.intro hbl hv))
  clear hrow hbl hv
  go_enter Tryz.func214, Tryz.ntmps214
  go_wp2_with fail
  go_loopg [0, 6] k (fun g s0 i wr => g ≤ k ∧ i = .int .i64 ((g : Int) - 1) ∧ s0 = .int .u64 ((v / 256 ^ (k - g) : Nat) : Int) ∧ wr.rowIs w.heap.size 5 k (WdF v k g) ∧ Below w.heap.size w wr)
  case atStart => exact ⟨Nat.le_refl _, rfl, by simp, HH.out.1, HH.out.2.1⟩
  case round =>
    obtain ⟨hgk, rfl, rfl, hr, hb⟩ := hrel
    have HI := hid (And.intro hr hb)
    clear hr hb
    by_cases hlt : 0 < gk
    · have h1 : (0 : Int) ≤ (gk : Int) - 1 := by omega
      have e1 : (gk : Int) - 1 = ((gk - 1 : Nat) : Int) := by omega
      obtain ⟨g, rfl⟩ : ∃ g, gk = g + 1 := ⟨gk - 1, by omega⟩
      obtain ⟨u, hu⟩ : ∃ u, u = v / 256 ^ (k - (g + 1)) := ⟨_, rfl⟩
      rw [← hu]
      have hv := wide_val v k g (by omega)
      rw [show k - 1 - g = k - (g + 1) from by omega, ← hu] at hv
      have hg2 : ((g + 1 : Nat) : Int) - 1 = (g : Int) := by omega
      have c1 := HI.out.1.cell (i := g) (by omega)
      have f1 := HI.out.1.frozen g
      have hun : u / 256 = v / 256 ^ (k - g) := by rw [hu, Nat.div_div_eq_div_mul, ← Nat.pow_succ, show (k - (g + 1)).succ = k - g from by omega]
      have hul : u < 18446744073709551616 := Nat.lt_of_le_of_lt (by rw [hu]; exact Nat.div_le_self _ _) HH.out.2.2
      have HU := hid hun
      clear hun hu e1 h1
      rw [hg2]
      go_wp2_with fail
      go_roundg g
      case measure => omega
      case rel => exact ⟨by omega, by go_num, by rw [← HU.out, Int.natCast_ediv]; rfl, wide_next HI.out.1 (by omega), HI.out.2.setCell (by simp) _⟩
    · obtain rfl : gk = 0 := by omega
      go_wp2_with fail
      go_ret
      have hbk : Blk wr w.heap.size 5 ((Wi.wide v k).map b8) := blk_of_row HI.out.1 _ (by simp [Wi.wide_length]) (fun i hi => by unfold WdF Wi.wide; rw [if_pos (Nat.zero_le _)]; simp [hi])
      exact ⟨_, _, _, Wi.wide_length v k, rfl, HI.out.2, own_blk hbk (Wi.wide_length v k) (Nat.le_refl _) (by omega)⟩
end Go.Proofs.YtpnakfeafekneaaGreatDoor

namespace Go.Proofs.YtpnakfeafekneaaGreatDoor
open Go.RowKit
theorem rd_grown_box {w w' : World} (kind : UInt8) (hb : Below (w.alloc (.cells #[b8 kind] 5)).drew.heap.size (w.alloc (.cells #[b8 kind] 5)).drew w') : Rd w' (some ⟨w.heap.size, 0, none⟩) ([kind].map b8) := ((rd_box w kind).grown (w' := (w.alloc (.cells #[b8 kind] 5)).drew) ((Below.refl _ _).drew)).grown hb
set_option maxHeartbeats 1000000 in
set_option maxRecDepth 100000 in
theorem rbytes_any (x : List Value) (e : Ent) (w : World) (h : EntAt w x e) (hk : e.key.length < 1048576) (hv : e.val.length < 1048576) :
    Calls Tryz.prog 101 #[.agg x.toArray] w (Nb w (En.bytes e)) := by
  obtain ⟨A1, c1, A2, c2, rfl, h1, h2, h3, h4⟩ := h
  obtain ⟨kind, key, val⟩ := e
  simp only at h1 h2 h3 h4 hk hv ⊢
  obtain ⟨nk, hnk⟩ : ∃ nk, key.length = nk := ⟨_, rfl⟩
  obtain ⟨nv, hnv⟩ : ∃ nv, val.length = nv := ⟨_, rfl⟩
  have hul1 := Wi.uvar_length 9 nk (by omega)
  have hul2 := Wi.uvar_length 9 nv (by omega)
  have hbl1 : (Wi.blob key).length < 1048600 := by unfold Wi.blob; rw [List.length_append, hnk]; omega
  have hbl2 : (Wi.blob val).length < 1048600 := by unfold Wi.blob; rw [List.length_append, hnv]; omega
  have hkc : ∀ w', Below w.heap.size w w' → Calls Tryz.prog 149 #[.slice A1 nk c1] w' (Nb w' (Wi.blob key)) := fun w' hb => rblob_any A1 nk c1 key w' hnk (h1.grown hb) (by omega)
  have hvc : ∀ w', Below w.heap.size w w' → Calls Tryz.prog 149 #[.slice A2 nv c2] w' (Nb w' (Wi.blob val)) := fun w' hb => rblob_any A2 nv c2 val w' hnv (h2.grown hb) (by omega)
  have HK := hid hkc
  have HV := hid hvc
  have HL := hid (And.intro hbl1 hbl2)
  rw [hnk, hnv]
  have hb1 := Blk.new w 36 [b8 kind, .slice A1 nk c1, .slice A2 nv c2]
  have HB0 := hid (And.intro hb1 (below_box w (.cells #[b8 kind, .slice A1 nk c1, .slice A2 nv c2] 36)))
  clear hkc hvc h1 h2 h3 h4 hnk hnv hb1 hul1 hul2 hbl1 hbl2 hk hv
  go_enter Tryz.func101, Tryz.ntmps101
  go_upto_region 1 with fail
  refine wp_world (fun w' => Blk w' w.heap.size 36 [b8 kind, .slice A1 nk c1, .slice A2 nv c2] ∧ Below w.heap.size w w') HB0.out ?_
  rintro w1 ⟨hb1, hbl⟩
  have HS : ∀ w', Blk w' w.heap.size 36 [b8 kind, .slice A1 nk c1, .slice A2 nv c2] → w'.cell? ⟨w.heap.size, 0, none⟩ = some (b8 kind) ∧ w'.cell? ⟨w.heap.size, 1, none⟩ = some (.slice A1 nk c1) ∧ w'.cell? ⟨w.heap.size, 2, none⟩ = some (.slice A2 nv c2) := fun w' h => ⟨by rw [h.cell]; rfl, by rw [h.cell]; rfl, by rw [h.cell]; rfl⟩
  have hd : Below w1.heap.size w1 w1.drew := (Below.refl _ _).drew
  have hda : Below w1.heap.size w1 (w1.alloc (.cells #[b8 kind] 5)).drew := (below_box w1 (.cells #[b8 kind] 5)).trans (Below.refl _ _).drew
  have HT := hid (And.intro HS (And.intro hd (And.intro hb1 (And.intro hbl hda))))
  clear HS hd hb1 hbl HB0 hda
  go_region_held3 (fun w' => w'.cell? ⟨w.heap.size, 0, none⟩ = some (b8 kind) ∧ w'.cell? ⟨w.heap.size, 1, none⟩ = some (.slice A1 nk c1) ∧ w'.cell? ⟨w.heap.size, 2, none⟩ = some (.slice A2 nv c2))
    (first | exact HT.out.1 _ (HT.out.2.2.1.grown HT.out.2.1) | exact HT.out.1 _ (HT.out.2.2.1.grown HT.out.2.2.2.2) | exact HT.out.1 _ (HT.out.2.2.1.grown K4.out.1) | exact HT.out.1 _ (HT.out.2.2.1.grown V4.out.1) | exact HT.out.1 _ (HT.out.2.2.1.grown V4.out.2.2.2) | exact HT.out.1 _ (HT.out.2.2.1.grown H5.out.2.1))
    (first
      | (go_at_call 148
         with_reducible refine Calls.mono (join_any (some ⟨w1.heap.size, 0, none⟩) 1 1 [kind] A4 n4 c4 (Wi.blob key) w4 rfl K4.out.2.1 K4.out.2.2.2 K4.out.2.2.1 (by have := HL.out.1; have := K4.out.2.1; omega)) ?_
         rintro ee w5 ⟨A5, c5, n5, hn5, rfl, hb5, ho5⟩
         have H5 := hid (And.intro hn5 (And.intro (gro K4.out.1 hb5) (And.intro (own_rd ho5).1 (own_base ho5 (fun k hk => Nat.le_trans (gro HT.out.2.2.2.1 K4.out.1).size ((ho5.lt k hk).1))))))
         clear hn5 hb5 ho5)
      | (go_at_call 148
         with_reducible refine Calls.mono (join_any (some ⟨w4.heap.size, 0, none⟩) 1 1 [kind] A4 n4 c4 (Wi.blob key) _ rfl V4.out.2.1 (rd_box w4 kind) (V4.out.2.2.1.grown (below_box w4 _)) (by have := HL.out.1; have := V4.out.2.1; omega)) ?_
         rintro ee w5 ⟨A5, c5, n5, hn5, rfl, hb5, ho5⟩
         have H5 := hid (And.intro hn5 (And.intro (gro V4.out.2.2.2 hb5) (And.intro (own_rd ho5).1 (own_base ho5 (fun k hk => Nat.le_trans (gro HT.out.2.2.2.1 V4.out.2.2.2).size ((ho5.lt k hk).1))))))
         clear hn5 hb5 ho5)
      | (go_at_call 149
         with_reducible refine Calls.mono (HK.out _ (gro HT.out.2.2.2.1 HT.out.2.2.2.2)) ?_
         rintro ee w4 ⟨A4, c4, n4, hn4, rfl, hb4, ho4⟩
         have K4 := hid (And.intro (gro HT.out.2.2.2.2 hb4) (And.intro hn4 (And.intro (own_rd ho4).1 (show Rd w4 (some ⟨w1.heap.size, 0, none⟩) ([kind].map b8) from rd_grown_box kind hb4))))
         clear hn4 hb4 ho4)
      | (go_at_call 149
         with_reducible refine Calls.mono (HK.out _ (gro HT.out.2.2.2.1 HT.out.2.1)) ?_
         rintro ee w4 ⟨A4, c4, n4, hn4, rfl, hb4, ho4⟩
         have V4 := hid (And.intro (gro HT.out.2.1 hb4) (And.intro hn4 (And.intro (own_rd ho4).1 (gro (gro HT.out.2.1 hb4) (below_box w4 (.cells #[b8 kind] 5))))))
         clear hn4 hb4 ho4))
  all_goals
    obtain ⟨y0, y1, y2⟩ := HT.out.1 _ (HT.out.2.2.1.grown H5.out.2.1)
    clear y1
    have hkl := HL.out.1
    by_cases hk1 : kind = 1
    · subst hk1
      go_wp2_with (first
        | (go_at_call 148
           refine (join_any A5 n5 c5 _ A7 n7 c7 (Wi.blob val) w7 H5.out.1 H7.out.1 (H5.out.2.2.1.grown H7.out.2.1) H7.out.2.2 (by have h1 := H5.out.1; have h2 := H7.out.1; have h3 := HL.out.2; rw [List.length_append] at h1; simp only [List.length_singleton] at h1; omega)).mono ?_
           rintro ee w8 ⟨A8, c8, n8', hn8, rfl, hb8, ho8⟩
           have H8 := hid (And.intro hn8 (And.intro hb8 ho8))
           clear hn8 hb8 ho8)
        | (go_at_call 149
           refine (HV.out _ (gro HT.out.2.2.2.1 H5.out.2.1)).mono ?_
           rintro ee w7 ⟨A7, c7, n7, hn7, rfl, hb7, ho7⟩
           have H7 := hid (And.intro hn7 (And.intro hb7 (own_rd ho7).1))
           clear hn7 hb7 ho7))
      go_ret
      refine ⟨A8, c8, n8', ?_, rfl, gro (gro (gro HT.out.2.2.2.1 H5.out.2.1) H7.out.2.1) H8.out.2.1, ?_⟩
      · rw [← H8.out.1]; rfl
      · exact own_base H8.out.2.2 (fun k hk => Nat.le_trans (gro (gro HT.out.2.2.2.1 H5.out.2.1) H7.out.2.1).size ((H8.out.2.2.lt k hk).1))
    · have hf : (n8 kind == 1) = false := by
        have : n8 kind ≠ 1 := fun h => hk1 (n8_inj (by rw [h]; rfl))
        simpa using this
      have eb : En.bytes ⟨kind, key, val⟩ = [kind] ++ Wi.blob key := by unfold En.bytes; simp [hk1]
      have HE := hid eb
      clear eb hk1
      go_wp2_with fail
      go_ret
      refine ⟨A5, c5, n5, ?_, rfl, gro HT.out.2.2.2.1 H5.out.2.1, ?_⟩
      · rw [HE.out]; exact H5.out.1
      · rw [HE.out]; exact H5.out.2.2.2
end Go.Proofs.YtpnakfeafekneaaGreatDoor
