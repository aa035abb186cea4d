/- Part 18 of this proof: T6, B2. -/
import Derived.Laws.EntriesVeiled
import Derived.Test.YtpnakfeafekneaaGreatDoorG13
import Derived.Test.YtpnakfeafekneaaGreatDoorG16
import Derived.Test.YtpnakfeafekneaaGreatDoorG17
set_option linter.unusedSimpArgs false
set_option linter.unusedVariables false
namespace Go.Proofs.YtpnakfeafekneaaGreatDoor
open Go.RowKit
theorem pow_of_and (n : Nat) (h1 : 0 < n) (h : n &&& (n - 1) = 0) : ∃ k, n = 2 ^ k := by
  refine ⟨n.log2, ?_⟩
  have hb := (Nat.log2_eq_iff (n := n) (k := n.log2) (by omega)).1 rfl
  rcases Nat.lt_or_ge (2 ^ n.log2) n with hlt | hge
  · exfalso
    have b1 : n.testBit n.log2 = true := by
      rw [Nat.testBit_eq_decide_div_mod_eq, decide_eq_true_eq]
      have : n / 2 ^ n.log2 = 1 := Nat.div_eq_of_lt_le (by omega) (by rw [Nat.pow_succ] at hb; omega)
      rw [this]
    have b2 : (n - 1).testBit n.log2 = true := by
      rw [Nat.testBit_eq_decide_div_mod_eq, decide_eq_true_eq]
      have : (n - 1) / 2 ^ n.log2 = 1 := Nat.div_eq_of_lt_le (by omega) (by rw [Nat.pow_succ] at hb; omega)
      rw [this]
    have : (n &&& (n - 1)).testBit n.log2 = true := by rw [Nat.testBit_and, b1, b2]; rfl
    rw [h] at this
    simp at this
  · omega
theorem u64_and (a b : Nat) (ha : a < 18446744073709551616) (hb : b < 18446744073709551616) : bits .and .u64 (a : Int) (b : Int) = ((a &&& b : Nat) : Int) := by
  have e : ∀ x : Nat, x < 18446744073709551616 → BitVec.ofInt 64 (x : Int) = BitVec.ofNat 64 x := fun x _ => by apply BitVec.eq_of_toNat_eq; simp
  show IntKind.u64.wrap (((BitVec.ofInt 64 (a : Int)) &&& (BitVec.ofInt 64 (b : Int))).toNat : Int) = _
  rw [e a ha, e b hb, BitVec.toNat_and, BitVec.toNat_ofNat, BitVec.toNat_ofNat, Nat.mod_eq_of_lt ha, Nat.mod_eq_of_lt hb, IntKind.wrap_u64]
  have : a &&& b ≤ a := Nat.and_le_left
  omega
abbrev partFn (B0 B8 : Nat) : Value := .func (Fn.func 182) #[] #[ptr B0, ptr B8]
set_option maxRecDepth 100000 in
theorem range1_any (B0 B8 b n : Nat) (hn1 : 1 ≤ n) (hn2 : n ≤ 32) (ds : List (List UInt8)) (hds : ds.length < 1099511627776) : ∀ (m lo hi : Nat) (w : World), hi - lo ≤ m → lo < hi → hi ≤ ds.length → TreeAt w b n ds → Words w → Blk w B0 97 [ptr b] → Blk w B8 253 [partFn B0 B8] →
    Calls Tryz.prog 182 #[.int .u64 lo, .int .u64 hi, ptr B0, ptr B8] w fun e w' => e = .returned (dg (Mt.log n ((ds.drop lo).take (hi - lo)))) ∧ Below w.heap.size w w' := by
  intro m
  induction m with
  | zero => intro lo hi w hm hl; omega
  | succ m ih =>
    intro lo hi w hm hl hh hT hw hb0 hb8
    obtain ⟨N, hN⟩ : ∃ N, N = hi - lo := ⟨_, rfl⟩
    have hs1 : IntKind.u64.wrap ((hi : Int) - (lo : Int)) = (N : Int) := by rw [IntKind.wrap_u64]; omega
    have hs2 : IntKind.u64.wrap ((N : Int) - 1) = ((N - 1 : Nat) : Int) := by rw [IntKind.wrap_u64]; omega
    have hs3 := u64_and N (N - 1) (by omega) (by omega)
    have c0 : w.cell? ⟨B0, 0, none⟩ = some (ptr b) := by rw [hb0.cell]; rfl
    have c8 : w.cell? ⟨B8, 0, none⟩ = some (partFn B0 B8) := by rw [hb8.cell]; rfl
    obtain ⟨A, c, bs, ts, hTi⟩ := hT.is
    have hfit : (Mt.log n ((ds.drop lo).take N)).length = 32 := (Mt.log_fit n hn2 _ _ (Nat.le_refl _) (fun d hd => hTi.fits d (List.mem_of_mem_drop (List.mem_of_mem_take hd)))).1
    have hlen32 : ((Mt.log n ((ds.drop lo).take N)).map b8).length = 32 := by simp [hfit]
    have HL := hid hlen32
    have HT := hid (And.intro hT (And.intro hw (And.intro hb0 (And.intro hb8 (And.intro hN (And.intro hTi.fits (And.intro c0 c8)))))))
    have hN0 : 0 < N := by omega
    rw [← hN]
    clear hT hw hb0 hb8 hN hTi hfit hlen32
    go_enter Tryz.func182, Tryz.ntmps182
    go_upto_region 1 with fail
    refine wp_world (Res w) (Res.new w) ?_
    clear c0 c8
    rintro w1 hr
    have c0 : w1.cell? ⟨B0, 0, none⟩ = some (ptr b) := by rw [(HT.out.2.2.1.grown hr.bl).cell]; rfl
    have c8 : w1.cell? ⟨B8, 0, none⟩ = some (partFn B0 B8) := by rw [(HT.out.2.2.2.1.grown hr.bl).cell]; rfl
    have HR := hid hr
    clear hr
    go_upto_region 2 with fail
    go_cut [22] (fun s22 wx => ∃ q : Bool, s22 = .bool q ∧ wx = w1 ∧ ((q = true ∧ (N &&& (N - 1) = 0 ∧ lo % N = 0)) ∨ (q = false ∧ ¬ (N &&& (N - 1) = 0 ∧ lo % N = 0))))
    case first =>
      by_cases hp : N &&& (N - 1) = 0
      · rw [hp] at hs3
        by_cases hal : lo % N = 0
        · have hmod : ((lo : Int) % (N : Int)) = 0 := by omega
          have HD := hid (And.intro hp hal)
          clear hp hal
          go_wp2_with fail
          go_meet
          exact ⟨_, rfl, rfl, .inl ⟨rfl, HD.out⟩⟩
        · have hmod : (((lo : Int) % (N : Int)) == 0) = false := by rw [beq_eq_false_iff_ne]; omega
          have HD := hid (show ¬ (N &&& (N - 1) = 0 ∧ lo % N = 0) from fun h => hal h.2)
          clear hp hal
          go_wp2_with fail
          go_meet
          exact ⟨_, rfl, rfl, .inr ⟨rfl, HD.out⟩⟩
      · have hnz : ((((N &&& (N - 1) : Nat) : Int)) == 0) = false := by rw [beq_eq_false_iff_ne]; omega
        have HD := hid (show ¬ (N &&& (N - 1) = 0 ∧ lo % N = 0) from fun h => hp h.1)
        clear hp
        go_wp2_with fail
        go_meet
        exact ⟨_, rfl, rfl, .inr ⟨rfl, HD.out⟩⟩
    case rest =>
      obtain ⟨q, rfl, rfl, hqq⟩ := hcut
      rename World => wc
      clear hs3 hs2
      rcases hqq with ⟨rfl, hq⟩ | ⟨rfl, hq⟩
      · obtain ⟨k, hk⟩ := pow_of_and N hN0 hq.1
        have hcall := whole_any b n lo k ds wc (HT.out.1.grown HR.out.bl) hn2 (by rw [← hk]; exact Nat.dvd_of_mod_eq_zero hq.2) (by rw [← hk]; have := HT.out.2.2.2.2.1; omega) hds
        rw [← hk] at hcall
        have HC := hid hcall
        clear hcall hk hq
        go_wp2_with (first
          | (go_at_call 183; refine HC.out.mono ?_; rintro e w2 ⟨rfl, hb⟩; have ht := HR.out.there hb; have HB := hid hb; clear hb)
          | ((with_reducible refine st_mid 40 (.tmp 6) (.tmp 26) w.heap.size 0 _ 32 HL.out ht (by kernel_rfl) (one_b8 _) ?_ ?_ ?_ ?_ ?_); rfl; rfl; rfl; rfl))
        exact rt_cell w.heap.size 0 _ 32 _ HL.out (World.rangeAt_setCells_same _ _ _ _ (by rw [HL.out]; exact ht)) Tryz.underlying40 rfl (by kernel_rfl) rfl rfl rfl ⟨rfl, below_setCells _ (Nat.le_refl _) _ _ _ (HR.out.below HB.out)⟩
      · have hN2 : 2 ≤ N := by
          rcases Nat.lt_or_ge N 2 with h | h
          · exfalso; apply hq
            obtain rfl : N = 1 := by omega
            exact ⟨rfl, Nat.mod_one _⟩
          · exact h
        clear hq
        have hbp := Mt.below_pos N
        have hbl := Mt.below_lt N hN2
        obtain ⟨K, hK⟩ : ∃ K, K = Mt.below N := ⟨_, rfl⟩
        rw [← hK] at hbp hbl
        have hHN := HT.out.2.2.2.2.1
        have hNl : N < 1099511627776 := by omega
        have hadd : IntKind.u64.wrap ((lo : Int) + (K : Int)) = ((lo + K : Nat) : Int) := by rw [IntKind.wrap_u64]; omega
        have hlog : Mt.log n ((ds.drop lo).take N) = Dg.node n (Mt.log n ((ds.drop lo).take K)) (Mt.log n ((ds.drop (lo + K)).take (hi - (lo + K)))) := by
          have hLl : ((ds.drop lo).take N).length = N := by simp; omega
          rw [Mt.log_two n _ (by rw [hLl]; exact hN2), hLl, ← hK, List.take_take, List.drop_take, List.drop_drop, Nat.min_eq_left (by omega), show hi - (lo + K) = N - K by omega]
        have hf1 : ∀ d ∈ (ds.drop lo).take K, d.length = 32 ∧ Dg.form n d = true := fun d hd => HT.out.2.2.2.2.2.1 d (List.mem_of_mem_drop (List.mem_of_mem_take hd))
        have hf2 : ∀ d ∈ (ds.drop (lo + K)).take (hi - (lo + K)), d.length = 32 ∧ Dg.form n d = true := fun d hd => HT.out.2.2.2.2.2.1 d (List.mem_of_mem_drop (List.mem_of_mem_take hd))
        have hfits : Fits n [Mt.log n ((ds.drop lo).take K), Mt.log n ((ds.drop (lo + K)).take (hi - (lo + K)))] := by
          intro d hd
          rcases List.mem_cons.1 hd with rfl | hd
          · exact Mt.log_fit n hn2 _ _ (Nat.le_refl _) hf1
          · rw [List.mem_singleton] at hd; subst hd
            exact Mt.log_fit n hn2 _ _ (Nat.le_refl _) hf2
        have HG := hid (And.intro hlog (And.intro hfits hK))
        clear hlog hfits hK hf1 hf2 hHN
        go_upto_region 5 with (go_at_call 184; refine (below_any N hN2 (by omega) _).mono ?_; rw [← HG.out.2.2]; rintro e w2 ⟨rfl, rfl⟩)
        have q0 := Fut.cell c0
        have q8 := Fut.cell c8
        have hT0 := HT.out.1.grown HR.out.bl
        have qb : wc.cell? ⟨b, 0, none⟩ = some (.int .i64 n) := by obtain ⟨A, c, bs, ts, hTi⟩ := hT0.is; rw [hTi.blk.cell]; rfl
        have qT : ∀ s : Fut wc, TreeAt s.v b n ds := fun s => hT0.grown s.below
        have qW := (HR.out.words HT.out.2.1).fut
        have q0b : ∀ s : Fut wc, Blk s.v B0 97 [ptr b] := fun s => (HT.out.2.2.1.grown HR.out.bl).grown s.below
        have q8b : ∀ s : Fut wc, Blk s.v B8 253 [partFn B0 B8] := fun s => (HT.out.2.2.2.1.grown HR.out.bl).grown s.below
        have qbb := Fut.cell qb
        have HF := hid (And.intro qT (And.intro qW (And.intro q0b (And.intro q8b qbb))))
        clear qT qW q0b q8b qbb qb hT0
        have elk : ((lo : Int) + (K : Int)) = ((lo + K : Nat) : Int) := by push_cast; rfl
        have qc1 : ∀ s : Fut wc, Calls Tryz.prog 182 #[.int .u64 lo, .int .u64 ((lo : Int) + (K : Int)), ptr B0, ptr B8] s.v fun e w'' => e = .returned (dg (Mt.log n ((ds.drop lo).take K))) ∧ ∃ s' : Fut wc, w'' = s'.v := fun s => Calls.fut_of (by
          have hHN := HT.out.2.2.2.2.1
          have := ih lo (lo + K) _ (by omega) (by omega) (by omega) (HF.out.1 s) (HF.out.2.1 s) (HF.out.2.2.1 s) (HF.out.2.2.2.1 s)
          rw [Nat.add_sub_cancel_left] at this
          rw [elk]; exact this)
        have qc2 : ∀ s : Fut wc, Calls Tryz.prog 182 #[.int .u64 ((lo : Int) + (K : Int)), .int .u64 hi, ptr B0, ptr B8] s.v fun e w'' => e = .returned (dg (Mt.log n ((ds.drop (lo + K)).take (hi - (lo + K))))) ∧ ∃ s' : Fut wc, w'' = s'.v := fun s => Calls.fut_of (by
          have hHN := HT.out.2.2.2.2.1
          rw [elk]; exact ih (lo + K) hi _ (by omega) (by omega) (by omega) (HF.out.1 s) (HF.out.2.1 s) (HF.out.2.2.1 s) (HF.out.2.2.2.1 s))
        have qc3 : ∀ s : Fut wc, Calls Tryz.prog 173 #[ptr b, dg (Mt.log n ((ds.drop lo).take K)), dg (Mt.log n ((ds.drop (lo + K)).take (hi - (lo + K))))] s.v fun e w'' => e = .returned (dg (Dg.node n (Mt.log n ((ds.drop lo).take K)) (Mt.log n ((ds.drop (lo + K)).take (hi - (lo + K)))))) ∧ ∃ s' : Fut wc, w'' = s'.v := fun s => Calls.fut_of (tjoin_ok b n hn1 hn2 _ _ _ (HF.out.2.2.2.2 s) HG.out.2.1 (HF.out.2.1 s))
        have HQ := hid (And.intro qc1 (And.intro qc2 qc3))
        clear qc1 qc2 qc3 elk
        refine wp_region_fut_tail 10 (by kernel_rfl) (by kernel_rfl) ?_
        dsimp only [List.take_succ_cons, List.take_zero, List.drop_succ_cons, List.drop_zero]
        repeat go_big_quiet_step (first
          | with_reducible exact HQ.out.1 _
          | with_reducible exact HQ.out.2.1 _
          | with_reducible exact HQ.out.2.2 _)
        refine wpQuiet_nil ?_
        rintro _ ⟨s, rfl⟩
        have ht := HR.out.there s.below
        have hl2 := HL.out
        rw [HG.out.1] at hl2
        have HL2 := hid hl2
        clear hl2
        refine st_mid 40 (.tmp 6) (.tmp 40) w.heap.size 0 _ 32 HL2.out ht (by kernel_rfl) (one_b8 _) rfl rfl rfl rfl ?_
        go_wp2_with fail
        exact rt_cell w.heap.size 0 _ 32 _ HL2.out (World.rangeAt_setCells_same _ _ _ _ (by rw [HL2.out]; exact ht)) Tryz.underlying40 rfl (by kernel_rfl) rfl rfl rfl ⟨by rw [HG.out.1], below_setCells _ (Nat.le_refl _) _ _ _ (HR.out.below s.below)⟩
theorem three_new (w : World) (A C : Obj) (t : TypeId) (cs : List Value) : Blk (((w.alloc A).alloc C).alloc (.cells cs.toArray t)) (w.heap.size + 1 + 1) t cs := by
  have h := Blk.new ((w.alloc A).alloc C) t cs
  rwa [show ((w.alloc A).alloc C).heap.size = w.heap.size + 1 + 1 by simp] at h
set_option maxRecDepth 100000 in
theorem trange_ok (b n lo hi : Nat) (ds : List (List UInt8)) (w : World) (h : TreeAt w b n ds) (hn1 : 1 ≤ n) (hn2 : n ≤ 32) (hl : lo < hi) (hh : hi ≤ ds.length) (hds : ds.length < 1099511627776) (hw : Words w) :
    Calls Tryz.prog 131 #[ptr b, .int .u64 lo, .int .u64 hi] w fun e w' => e = .returned (.tuple #[dg (Mt.log n ((ds.drop lo).take (hi - lo))), .int .i64 0]) ∧ Below w.heap.size w w' := by
  obtain ⟨A, c, bs, ts, hT⟩ := h.is
  have c1 : w.cell? ⟨b, 1, none⟩ = some (.int .u64 ds.length) := by rw [hT.blk.cell]; rfl
  have hb := hT.blk.lt
  have hfit : (Mt.log n ((ds.drop lo).take (hi - lo))).length = 32 := (Mt.log_fit n hn2 _ _ (Nat.le_refl _) (fun d hd => hT.fits d (List.mem_of_mem_drop (List.mem_of_mem_take hd)))).1
  have HL := hid (show ((Mt.log n ((ds.drop lo).take (hi - lo))).map b8).length = 32 by simp [hfit])
  have HT := hid h
  clear h hT hfit
  have i1 : ¬ (hi : Int) < (lo : Int) := by omega
  have i2 : ¬ (ds.length : Int) < (hi : Int) := by omega
  have i3 : ((lo : Int) == (hi : Int)) = false := by rw [beq_eq_false_iff_ne]; omega
  go_enter Tryz.func131, Tryz.ntmps131
  go_upto_region 8 with fail
  have hr1 := blk_three w (.cells #[ptr b] 97) (.cells #[.nilFunc] 253) 40 (List.replicate 32 (b8 0))
  have hr2 := three_new w (.cells #[ptr b] 97) (.cells (List.replicate 32 (b8 0)).toArray 40) 253 [.nilFunc]
  refine wp_world (fun w' => Blk w' w.heap.size 97 [ptr b] ∧ Blk w' (w.heap.size + 1) 40 (List.replicate 32 (b8 0)) ∧ Blk w' (w.heap.size + 1 + 1) 253 [.nilFunc] ∧ Below w.heap.size w w') ⟨((Blk.new w 97 [ptr b]).alloc _).alloc _, hr1, hr2, (((Below.refl _ _).alloc (Nat.le_refl _) _).alloc (by simp) _).alloc (by simp; omega) _⟩ ?_
  clear hr1 hr2 c1
  rintro w1 ⟨h1, h2, h3, h4⟩
  have c3 : w1.cell? ⟨w.heap.size + 1 + 1, 0, none⟩ = some .nilFunc := by rw [h3.cell]; rfl
  have f3 := h3.frozen 0
  have k2 : Below w.heap.size w (w1.setCell ⟨w.heap.size + 1 + 1, 0, none⟩ (partFn w.heap.size (w.heap.size + 1 + 1))) := h4.setCell (by simp; omega) _
  have k3 : Blk (w1.setCell ⟨w.heap.size + 1 + 1, 0, none⟩ (partFn w.heap.size (w.heap.size + 1 + 1))) (w.heap.size + 1 + 1) 253 [partFn w.heap.size (w.heap.size + 1 + 1)] := h3.set_ 0 _
  have k1 : Blk (w1.setCell ⟨w.heap.size + 1 + 1, 0, none⟩ (partFn w.heap.size (w.heap.size + 1 + 1))) w.heap.size 97 [ptr b] := h1.far (by simp; omega) _
  have k0 : Blk (w1.setCell ⟨w.heap.size + 1 + 1, 0, none⟩ (partFn w.heap.size (w.heap.size + 1 + 1))) (w.heap.size + 1) 40 (List.replicate 32 (b8 0)) := h2.far (by simp) _
  have hcall := range1_any w.heap.size (w.heap.size + 1 + 1) b n hn1 hn2 ds hds (hi - lo) lo hi _ (Nat.le_refl _) hl hh (HT.out.grown k2) (hw.below k2) k1 k3
  have HC := hid (And.intro hcall (And.intro k2 k0))
  clear hcall k2 k3 k1 k0 h1 h2 h3 h4
  go_wp2_with (first
    | (go_at_call 182; refine HC.out.1.mono ?_; rintro e w2 ⟨rfl, hb2⟩; have ht := (HC.out.2.2.grown hb2).there 0 32 (by simp); have HB := hid hb2; clear hb2)
    | ((with_reducible refine st_mid 40 (.tmp 6) (.tmp 41) (w.heap.size + 1) 0 _ 32 HL.out ht (by kernel_rfl) (one_b8 _) ?_ ?_ ?_ ?_ ?_); rfl; rfl; rfl; rfl))
  exact rt_cell_tmp (w.heap.size + 1) 0 _ 32 _ HL.out (World.rangeAt_setCells_same _ _ _ _ (by rw [HL.out]; exact ht)) Tryz.underlying40 rfl (by kernel_rfl) rfl rfl rfl ⟨rfl, below_setCells _ (by omega) _ _ _ (gro HC.out.2.1 HB.out)⟩
set_option maxRecDepth 100000 in
theorem trange_nil (b n lo : Nat) (ds : List (List UInt8)) (w : World) (h : TreeAt w b n ds) (hn1 : 1 ≤ n) (hn2 : n ≤ 32) (hh : lo ≤ ds.length) (hds : ds.length < 1099511627776) (hw : Words w) :
    Calls Tryz.prog 131 #[ptr b, .int .u64 lo, .int .u64 lo] w fun e w' => e = .returned (.tuple #[dg (Mt.log n []), .int .i64 0]) ∧ Below w.heap.size w w' := by
  obtain ⟨A, c, bs, ts, hT⟩ := h.is
  have c1 : w.cell? ⟨b, 1, none⟩ = some (.int .u64 ds.length) := by rw [hT.blk.cell]; rfl
  have c0 : w.cell? ⟨b, 0, none⟩ = some (.int .i64 n) := by rw [hT.blk.cell]; rfl
  have hb := hT.blk.lt
  have HL := hid (show ((Dg.noLog n).map b8).length = 32 by have := Dg.sum_length n [] hn2; unfold Dg.noLog; simp [this])
  clear h hT
  rw [Mt.log_nil]
  have i1 : ¬ (lo : Int) < (lo : Int) := by omega
  have i2 : ¬ (ds.length : Int) < (lo : Int) := by omega
  go_enter Tryz.func131, Tryz.ntmps131
  go_upto_region 1 with fail
  have hr1 := Blk.new (w.alloc (.cells #[ptr b] 97)) 40 (List.replicate 32 (b8 0))
  rw [show (w.alloc (.cells #[ptr b] 97)).heap.size = w.heap.size + 1 by simp] at hr1
  refine wp_world (fun w' => Blk w' w.heap.size 97 [ptr b] ∧ Blk w' (w.heap.size + 1) 40 (List.replicate 32 (b8 0)) ∧ Below w.heap.size w w') ⟨(Blk.new w 97 [ptr b]).alloc _, hr1, ((Below.refl _ _).alloc (Nat.le_refl _) _).alloc (by simp) _⟩ ?_
  clear hr1
  rintro w1 ⟨h1, h2, h4⟩
  have d0 : w1.cell? ⟨w.heap.size, 0, none⟩ = some (ptr b) := by rw [h1.cell]; rfl
  have d1 : w1.cell? ⟨b, 1, none⟩ = some (.int .u64 ds.length) := by rw [h4.cell (p := ⟨b, 1, none⟩) hb]; exact c1
  have d2 : w1.cell? ⟨b, 0, none⟩ = some (.int .i64 n) := by rw [h4.cell (p := ⟨b, 0, none⟩) hb]; exact c0
  have HC := hid (And.intro h2 h4)
  clear c1 c0 h1 h2 h4
  go_wp2_with (first
    | (go_at_call 181; refine (noLog_any n hn1 hn2 _ (hw.below HC.out.2)).mono ?_; rintro e w2 ⟨rfl, hb2⟩; have ht := (HC.out.1.grown hb2).there 0 32 (by simp); have HB := hid hb2; clear hb2)
    | ((with_reducible refine st_mid 40 (.tmp 6) (.tmp 35) (w.heap.size + 1) 0 _ 32 HL.out ht (by kernel_rfl) (one_b8 _) ?_ ?_ ?_ ?_ ?_); rfl; rfl; rfl; rfl))
  exact rt_cell_tmp (w.heap.size + 1) 0 _ 32 _ HL.out (World.rangeAt_setCells_same _ _ _ _ (by rw [HL.out]; exact ht)) Tryz.underlying40 rfl (by kernel_rfl) rfl rfl rfl ⟨rfl, below_setCells _ (by omega) _ _ _ (gro HC.out.2 HB.out)⟩
set_option maxRecDepth 100000 in
theorem troot_any (b n : Nat) (ds : List (List UInt8)) (w : World) (h : TreeAt w b n ds) (hn1 : 1 ≤ n) (hn2 : n ≤ 32) (hds : ds.length < 1099511627776) (hw : Words w) :
    Calls Tryz.prog 105 #[ptr b, .int .u64 ds.length] w fun e w' => e = .returned (.tuple #[dg (Mt.log n ds), .int .i64 0]) ∧ Below w.heap.size w w' := by
  obtain ⟨A, c, bs, ts, hT⟩ := h.is
  have hfit := (Mt.log_fit n hn2 _ _ (Nat.le_refl _) hT.fits).1
  have HL := hid (show ((Mt.log n ds).map b8).length = 32 by simp [hfit])
  have hall : ∀ w1, Below w.heap.size w w1 → Calls Tryz.prog 131 #[ptr b, .int .u64 0, .int .u64 ds.length] w1 fun e w' => e = .returned (.tuple #[dg (Mt.log n ds), .int .i64 0]) ∧ Below w1.heap.size w1 w' := by
    intro w1 hb
    rcases Nat.eq_zero_or_pos ds.length with h0 | h0
    · have := trange_nil b n 0 ds w1 (h.grown hb) hn1 hn2 (Nat.zero_le _) hds (hw.below hb)
      rw [List.eq_nil_of_length_eq_zero h0]; exact this
    · have := trange_ok b n 0 ds.length ds w1 (h.grown hb) hn1 hn2 h0 (Nat.le_refl _) hds (hw.below hb)
      rw [List.drop_zero, Nat.sub_zero, List.take_length] at this
      exact this
  have HA := hid hall
  clear hall hfit hT h
  go_enter Tryz.func105, Tryz.ntmps105
  go_upto_region 1 with fail
  refine wp_world (Res w) (Res.new w) ?_
  rintro w1 hr
  have HR := hid hr
  clear hr
  go_wp2_with (first
    | (go_at_call 131; refine (HA.out w1 HR.out.bl).mono ?_; rintro e w2 ⟨rfl, hb⟩; have ht := HR.out.there hb; have HB := hid hb; clear hb)
    | ((with_reducible refine st_mid 40 (.tmp 4) (.tmp 9) w.heap.size 0 _ 32 HL.out ht (by kernel_rfl) (one_b8 _) ?_ ?_ ?_ ?_ ?_); rfl; rfl; rfl; rfl))
  exact res_end HL.out ht (HR.out.below HB.out) rfl rfl rfl rfl (fun _ h => ⟨rfl, h⟩)
end Go.Proofs.YtpnakfeafekneaaGreatDoor

namespace Go.Proofs.YtpnakfeafekneaaGreatDoor
open Go.RowKit
theorem fill_step (place : Nat → Option (Nat × Nat)) (cells : List Value) (i : Nat) (v : Value) (rest : List (Nat × Value)) (off size : Nat) (hp : place i = some (off, size)) (cs : List Value) (hv : v.cells = cs.toArray) (hs : cs.length = size) (hfit : off + size ≤ cells.length) :
    Instr.fill place cells.toArray ((i, v) :: rest) = Instr.fill place (splice cells off cs).toArray rest := by
  obtain ⟨g1, g2⟩ := Great.foldl_set off cs 0 cells.toArray
  have e : (cs.zipIdx 0).foldl (fun c (x : Value × Nat) => c.setIfInBounds (off + x.2) x.1) cells.toArray = (splice cells off cs).toArray := by
    apply Array.ext_getElem?
    intro k
    rw [g2 k, List.getElem?_toArray, List.getElem?_toArray, splice_get _ _ _ (by omega)]
    simp only [Nat.add_zero, List.size_toArray]
    by_cases h1 : k < off
    · rw [if_neg (by omega), if_pos h1]
    · rw [if_neg h1]
      by_cases h2 : k < off + cs.length
      · rw [if_pos ⟨by omega, h2, by omega⟩, if_pos h2]
      · rw [if_neg (by omega), if_neg h2]
  rw [← e]
  conv => lhs; unfold Instr.fill
  simp only [hp, hv, List.size_toArray, hs]
  rw [if_neg (by simp; omega)]
  congr 1
  rw [← Array.foldl_toList]
  simp
section
variable {P : Program} {C : World → Prop}
theorem quiet_build {o : Oper} {a : Act} {K : Act → Prop} (t : TypeId) (parts : Array (Nat × Operand)) (cells : List Value) (ho : o.op = .build t parts) (hb : P.built t (parts.toList.map fun x => (x.1, a.eval x.2)) = some cells.toArray) (hk : K (a.put o.dst (.agg cells.toArray))) : o.quiet P a C K :=
  ⟨_, fun w hw => by
    have := run_build (P := P) w t (parts.map fun (i, x) => (i, a.eval x)) cells.toArray (by rw [Array.toList_map]; exact hb)
    unfold Oper.quietAt execOp
    simp only [ho, Sem.run_bind, this, Result.andThen_ok]
    exact ⟨rfl, rfl⟩, hk⟩
theorem wl_build {ops : Array Oper} {rest : List Oper} {o : Oper} {a : Act} {w : World} {Q : Exit → Act → World → Prop} (t : TypeId) (parts : Array (Nat × Operand)) (cells : List Value) (hg : o.guard = none) (ho : o.op = .build t parts) (hb : P.built t (parts.toList.map fun x => (x.1, a.eval x.2)) = some cells.toArray)
    (h : wpList P ops Q rest (a.put o.dst (.agg cells.toArray)) w) : wpList P ops Q (o :: rest) a w := by
  refine wpList_plain hg fun K hK => ?_
  have := run_build (P := P) w t (parts.map fun (i, x) => (i, a.eval x)) cells.toArray (by rw [Array.toList_map]; exact hb)
  unfold Oper.wp execOp
  simp only [ho, Sem.run_bind, this, Result.andThen_ok]
  exact hK _ _ h
end
end Go.Proofs.YtpnakfeafekneaaGreatDoor
