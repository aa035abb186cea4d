/- Part 23 of this proof: P2, P3, VF, VG, VH, VI, VJ. -/
import Derived.Test.YtpnakfeafekneaaGreatDoorG19
import Derived.Test.YtpnakfeafekneaaGreatDoorG22
set_option linter.unusedSimpArgs false
set_option linter.unusedVariables false
namespace Go.Proofs.YtpnakfeafekneaaGreatDoor
open Go.RowKit
theorem info_dg : (Tryz.prog.info? 40).map (fun i => (i.zero, i.size, i.bytes)) = some (some (dg (List.replicate 32 0)), 32, 32) := by kernel_rfl
theorem made_dg (k : Nat) : madeCells (dg (List.replicate 32 0)).cells (k * 32) = (List.replicate (k * 32) (b8 0)).toArray := by
  apply Array.ext_getElem?
  intro i
  by_cases h : i < k * 32
  · have e : (madeCells (dg (List.replicate 32 0)).cells (k * 32))[i]? = some ((dg (List.replicate 32 0)).cells[i % 32]!) := by
      simp [madeCells, h, Value.cells]
    rw [e]
    have h2 : i % 32 < 32 := Nat.mod_lt _ (by decide)
    have e2 : (dg (List.replicate 32 0)).cells = (List.replicate 32 (b8 0)).toArray := by simp [Value.cells]
    have e3 : ∀ r, r < 32 → (List.replicate 32 (b8 0)).toArray[r]! = b8 0 := by
      intro r hr
      rw [getElem!_pos _ _ (by rw [List.size_toArray, List.length_replicate]; exact hr)]
      exact List.getElem_replicate _
    rw [e2, e3 _ h2, List.getElem?_toArray, List.getElem?_replicate, if_pos h]
  · rw [Array.getElem?_eq_none (by rw [size_madeCells]; omega), Array.getElem?_eq_none (by simp; omega)]
theorem make_dgs [Inhabited LoT] (k : Nat) (hk : k < 1048576) (w : World) : (Instr.makeSlice 105 (.int .i64 k) (.int .i64 k)).run Tryz.prog w = .ok (.slice (some ⟨w.heap.size, 0, none⟩) k k) (w.alloc (.cells (List.replicate (k * 32) (b8 0)).toArray 40)) := by
  obtain ⟨i, hi, hz, hsize, hby⟩ := info_parts info_dg
  have := run_make (P := Tryz.prog) w 105 40 i (dg (List.replicate 32 0)) Tryz.underlying105 hi hz .i64 .i64 k k (by omega) (by omega) (by rw [hby]; omega) (by omega)
  rw [this]
  simp only [Int.toNat_natCast, hsize, made_dg]
/- 401: the fuel of 'method', as the walk's goal shows it; it hangs on the seat. -/
@[go_sem] theorem meth_bksum (b : Nat) (w : World) : (method 401 160 (ptr b) "notary/hamt.sum").run Tryz.prog w = .ok (243, ptr b) w := by kernel_rfl
@[go_sem] theorem meth_bkcount (b : Nat) (w : World) : (method 401 160 (ptr b) "notary/hamt.count").run Tryz.prog w = .ok (242, ptr b) w := by kernel_rfl
@[go_sem] theorem meth_brsum (b : Nat) (w : World) : (method 401 167 (ptr b) "notary/hamt.sum").run Tryz.prog w = .ok (245, ptr b) w := by kernel_rfl
@[go_sem] theorem meth_brcount (b : Nat) (w : World) : (method 401 167 (ptr b) "notary/hamt.count").run Tryz.prog w = .ok (244, ptr b) w := by kernel_rfl
def MapW (w : World) (b n : Nat) : Prop := w.cell? ⟨b, 0, none⟩ = some (.int .i64 n)
theorem MapW.grown {w w' : World} {b n : Nat} (h : MapW w b n) (hb : Below w.heap.size w w') : MapW w' b n := by
  unfold MapW at h ⊢
  rw [hb.cell (p := ⟨b, 0, none⟩) (World.block_lt_of_cell? w _ h)]; exact h
theorem dgs_take {ks : List (List UInt8)} {j : Nat} (h : j < ks.length) : (dgs (ks.take (j + 1))).flatten = (dgs (ks.take j)).flatten ++ ks[j].map b8 := by
  unfold dgs
  rw [List.take_succ_eq_append_getElem h, List.map_append, List.flatten_append]
  simp
theorem fork_cells [Inhabited LoT] {ks : List (List UInt8)} {j k : Nat} (hd : ∀ d ∈ ks, d.length = 32) (h : j < ks.length) (hk : j < k) :
    splice ((dgs (ks.take j)).flatten ++ List.replicate ((k - j) * 32) (b8 0)) (j * 32) (ks[j].map b8) = (dgs (ks.take (j + 1))).flatten ++ List.replicate ((k - (j + 1)) * 32) (b8 0) := by
  have e1 : (dgs (ks.take j)).flatten.length = j * 32 := by
    rw [flatten_size 32 _ (dgs_len fun d hd' => hd d (List.mem_of_mem_take hd'))]
    simp [dgs]; omega
  have e2 : (ks[j].map b8).length = 32 := by rw [List.length_map]; exact hd _ (List.getElem_mem h)
  rw [splice_tail _ _ _ _ (by omega), e1, Nat.sub_self, dgs_take h, List.append_assoc]
  congr 1
  rw [show (k - j) * 32 = 32 + (k - (j + 1)) * 32 by omega, ← List.replicate_append_replicate]
  exact splice_head _ _ _ (by rw [e2]; simp)
theorem fork_there {w : World} {g t : Nat} {ks : List (List UInt8)} {j k : Nat} (hd : ∀ d ∈ ks, d.length = 32) (h : j < ks.length) (hk : j < k) (hb : Blk w g t ((dgs (ks.take j)).flatten ++ List.replicate ((k - j) * 32) (b8 0))) : w.there g (j * 32) 32 := by
  have e1 : (dgs (ks.take j)).flatten.length = j * 32 := by
    rw [flatten_size 32 _ (dgs_len fun d hd' => hd d (List.mem_of_mem_take hd'))]
    simp [dgs]; omega
  exact hb.there _ _ (by rw [List.length_append, e1, List.length_replicate]; omega)
theorem br_fill (parts : List (Nat × Value)) : Tryz.prog.built 171 parts = Instr.fill ((#[(0, 1), (1, 1), (2, 32), (34, 1)] : Array (Nat × Nat))[·]?) ([Value.int .u16 0, Value.slice none 0 0] ++ (List.replicate 32 (b8 0) ++ [Value.int .i64 0])).toArray parts := by kernel_rfl
theorem br_built [Inhabited LoT] (bm : Nat) (d : List UInt8) (A : Option Addr) (k c : Nat) (z : Int) (hd : d.length = 32) : Tryz.prog.built 171 [(0, .int .u16 bm), (1, .slice A k c), (2, dg d), (3, .int .i64 z)] = some (brCells bm (.slice A k c) d z).toArray := by
  have hD : (d.map b8).length = 32 := by simp [hd]
  rw [br_fill, fill_step _ _ 0 _ _ 0 1 rfl [.int .u16 bm] rfl rfl (by simp), 
    show splice ([Value.int .u16 0, Value.slice none 0 0] ++ (List.replicate 32 (b8 0) ++ [Value.int .i64 0])) 0 [Value.int .u16 bm] = [Value.int .u16 bm, Value.slice none 0 0] ++ (List.replicate 32 (b8 0) ++ [Value.int .i64 0]) from rfl,
    fill_step _ _ 1 _ _ 1 1 rfl [.slice A k c] rfl rfl (by simp),
    show splice ([Value.int .u16 bm, Value.slice none 0 0] ++ (List.replicate 32 (b8 0) ++ [Value.int .i64 0])) 1 [Value.slice A k c] = [Value.int .u16 bm, .slice A k c] ++ (List.replicate 32 (b8 0) ++ [Value.int .i64 0]) from rfl,
    fill_step _ _ 2 _ _ 2 32 rfl (d.map b8) rfl hD (by simp), splice_tail _ _ _ _ (by simp),
    show splice (List.replicate 32 (b8 0) ++ [Value.int .i64 0]) (2 - [Value.int .u16 bm, Value.slice A k c].length) (d.map b8) = d.map b8 ++ [Value.int .i64 0] from splice_head _ _ _ (by simp [hd]),
    fill_step _ _ 3 _ _ 34 1 rfl [.int .i64 z] rfl rfl (by simp [hd]), splice_tail _ _ _ _ (by simp),
    show splice (d.map b8 ++ [Value.int .i64 0]) (34 - [Value.int .u16 bm, Value.slice A k c].length) [Value.int .i64 z] = d.map b8 ++ [Value.int .i64 z] from by rw [splice_tail _ _ _ _ (by simp [hd])]; simp [hd, splice]]
  rfl
set_option maxRecDepth 100000 in
theorem fork_any [Inhabited LoT] (b n : Nat) (h1 : 1 ≤ n) (h2 : n ≤ 32) (bm : Nat) (hm : bm < 65536) (A : Option Addr) (c : Nat) (vs : List Value) (ks : List (List UInt8)) (w : World) (hw : Words w) (hb : MapW w b n) (hl : vs.length = ks.length) (hA : Rd w A vs)
    (hs : ∀ (i : Nat) (v : Value) (d : List UInt8), vs[i]? = some v → ks[i]? = some d → SumAt w v d) (hf : Fits n ks) (hp : Nib.pop bm = ks.length) (hm0 : bm ≠ 0) (hk16 : ks.length ≤ 16) :
    Calls Tryz.prog 166 #[ptr b, .int .u16 bm, .slice A vs.length c] w fun e w' => ∃ (b' : Nat) (z : Int), e = .returned (ptr b') ∧ Below w.heap.size w w' ∧ Blk w' b' 171 (brCells bm (.slice A vs.length c) (Dg.branch n bm ks) z) := by
  have HA := hid (And.intro hw (And.intro hb (And.intro hl (And.intro hA (And.intro hs (And.intro hf hp))))))
  have hv16 : vs.length ≤ 16 := by omega
  clear hw hb hl hA hs hf hp
  have hmk := make_dgs vs.length (by omega)
  go_enter Tryz.func166, Tryz.ntmps166
  go_wp2_with fail
  clear hmk
  go_loopg [8, 18] vs.length (fun g s8 i wr => ∃ (j : Nat) (z : Int), j + g = vs.length ∧ i = .int .i64 j ∧ s8 = .int .i64 z ∧ Below w.heap.size w wr ∧ Blk wr w.heap.size 40 ((dgs (ks.take j)).flatten ++ List.replicate ((vs.length - j) * 32) (b8 0)))
  case atStart => exact ⟨0, 0, by omega, rfl, rfl, below_box _ _, by simpa [dgs] using Blk.new w 40 (List.replicate (vs.length * 32) (b8 0))⟩
  case round =>
    obtain ⟨j, z, hj, rfl, rfl, hbl, hblk⟩ := hrel
    have HI := hid (And.intro hbl hblk)
    clear hbl hblk
    by_cases hlt : j < vs.length
    · obtain ⟨g, o, rfl, hr⟩ := HA.out.2.2.2.1 (by intro e; rw [e] at hlt; simp at hlt)
      have c0 : wr.cell? ⟨g, o + j, none⟩ = some vs[j] := by
        have h := hr j vs[j] (by simp [hlt])
        rw [HI.out.1.cell (p := ⟨g, o + j, none⟩) (World.block_lt_of_cell? w _ h)]; exact h
      have hkl : j < ks.length := by have := HA.out.2.2.1; omega
      have hs := HA.out.2.2.2.2.1 j vs[j] ks[j] (by simp [hlt]) (by simp [hkl])
      have hd32 : ∀ d ∈ ks, d.length = 32 := fun d hd => (HA.out.2.2.2.2.2.1 d hd).1
      have HD := hid (And.intro hd32 (fork_cells (k := vs.length) hd32 hkl hlt))
      have HL := hid (show (ks[j].map b8).length = 32 by rw [List.length_map]; exact hs.1)
      obtain ⟨hd, hs⟩ := hs
      have hw1 : w.heap.size ≤ wr.heap.size := HI.out.1.size
      clear hd32
      rcases hs with ⟨nb, of, s, e, hol, hblk, A9, k9, c9, rfl⟩ | ⟨nb, bm9, s, z9, e, hblk⟩
      · rw [e] at c0
        have HK := hid (And.intro hol (And.intro hblk hd))
        clear hr e hol hblk hd
        go_wp2_with (first
          | (go_at_call 243
             refine (bksum_any nb of _ ks[j] wr HK.out.1 HK.out.2.2 (HK.out.2.1.below HI.out.1 HK.out.2.1.lt)).mono ?_
             rintro e w2 ⟨rfl, hb⟩
             have ht := fork_there HD.out.1 hkl hlt (HI.out.2.grown hb)
             have HV := hid hb; clear hb)
          | (go_at_call 242
             refine (bkcount_any nb of A9 k9 c9 ks[j] _ HK.out.1 (HK.out.2.1.below (below_setCells _ (Nat.le_refl _) _ _ _ (HI.out.1.trans (HV.out.mono hw1))) HK.out.2.1.lt)).mono ?_
             rintro e w3 ⟨rfl, rfl⟩)
          | ((with_reducible refine st_mid 40 (.tmp 27) (.tmp 26) w.heap.size (j * 32) (ks[j].map b8) 32 HL.out ht (by kernel_rfl) (one_b8 _) ?_ ?_ ?_ ?_ ?_); rfl; rfl; rfl; rfl))
        go_roundg (gk - 1)
        case measure => omega
        case rel =>
          refine ⟨j + 1, _, by omega, by go_num, rfl, below_setCells _ (Nat.le_refl _) _ _ _ (HI.out.1.trans (HV.out.mono hw1)), ?_⟩
          have := (HI.out.2.grown HV.out).setCells (ks[j].map b8) (j * 32) _ (by rw [HL.out, List.length_append, List.length_replicate, flatten_size 32 _ (dgs_len fun d hd' => HD.out.1 d (List.mem_of_mem_take hd'))]; simp [dgs]; omega)
          rw [HD.out.2] at this
          exact this
      · rw [e] at c0
        have HK := hid (And.intro hblk hd)
        clear hr e hblk hd
        go_wp2_with (first
          | (go_at_call 245
             refine (brsum_any nb bm9 s ks[j] z9 wr HK.out.2 (HK.out.1.below HI.out.1 HK.out.1.lt)).mono ?_
             rintro e w2 ⟨rfl, hb⟩
             have ht := fork_there HD.out.1 hkl hlt (HI.out.2.grown hb)
             have HV := hid hb; clear hb)
          | (go_at_call 244
             refine (brcount_any nb bm9 s ks[j] z9 _ HK.out.2 (HK.out.1.below (below_setCells _ (Nat.le_refl _) _ _ _ (HI.out.1.trans (HV.out.mono hw1))) HK.out.1.lt)).mono ?_
             rintro e w3 ⟨rfl, rfl⟩)
          | ((with_reducible refine st_mid 40 (.tmp 27) (.tmp 26) w.heap.size (j * 32) (ks[j].map b8) 32 HL.out ht (by kernel_rfl) (one_b8 _) ?_ ?_ ?_ ?_ ?_); rfl; rfl; rfl; rfl))
        go_roundg (gk - 1)
        case measure => omega
        case rel =>
          refine ⟨j + 1, _, by omega, by go_num, rfl, below_setCells _ (Nat.le_refl _) _ _ _ (HI.out.1.trans (HV.out.mono hw1)), ?_⟩
          have := (HI.out.2.grown HV.out).setCells (ks[j].map b8) (j * 32) _ (by rw [HL.out, List.length_append, List.length_replicate, flatten_size 32 _ (dgs_len fun d hd' => HD.out.1 d (List.mem_of_mem_take hd'))]; simp [dgs]; omega)
          rw [HD.out.2] at this
          exact this
    · have hj2 : j = ks.length := by have := HA.out.2.2.1; omega
      have hrd : Rd wr (some ⟨w.heap.size, 0, none⟩) (dgs ks).flatten := by
        have h := HI.out.2
        rw [show vs.length - j = 0 by omega, hj2, List.take_length] at h
        simp only [Nat.zero_mul, List.replicate_zero, List.append_nil] at h
        exact Rd.of _ h.whole
      have hsm := Dg.sum_length n (Dg.branchIn n bm ks) h2
      have HC := hid (show ((Dg.branch n bm ks).map b8).length = 32 by unfold Dg.branch; simp [hsm])
      have hwr := HI.out.1
      have hvl := HA.out.2.2.1
      have hcall := branch_ok n h1 h2 bm hm (some ⟨w.heap.size, 0, none⟩) vs.length ks wr (HA.out.1.below hwr) HA.out.2.2.2.2.2.1 hrd HA.out.2.2.2.2.2.2 hm0 hk16
      rw [← hvl] at hcall
      have k0 : wr.cell? ⟨b, 0, none⟩ = some (.int .i64 n) := HA.out.2.1.grown hwr
      have HF := hid (br_built bm (Dg.branch n bm ks) A vs.length c z (by unfold Dg.branch; exact hsm))
      have HX := hid hcall
      clear hj2 hrd hsm hwr hcall hvl
      go_upto_region 10 with (first
        | (go_at_call 204
           refine HX.out.mono ?_
           rintro e w2 ⟨rfl, hb⟩
           have HV := hid hb; clear hb)
        | ((with_reducible refine st_new 40 (.tmp 11) (.tmp 41) _ _ ((Dg.branch n bm ks).map b8) 32 HC.out ?_ (by kernel_rfl) (one_b8 _) ?_ ?_ ?_ ?_ ?_); rfl; rfl; rfl; rfl; rfl))
      refine wp_world (fun w' => w'.rangeAt w2.heap.size 0 ((Dg.branch n bm ks).map b8) ∧ Below w.heap.size w w') ⟨(Blk.new w2 _ _).whole, gro (gro HI.out.1 HV.out) (below_box _ _)⟩ ?_
      rintro w3 ⟨hr2, hb3⟩
      have HE := hid hb3
      clear hb3
      go_wp2_with (first
        | ((with_reducible refine ld_mid 40 (.tmp 11) w2.heap.size 0 _ 32 _ HC.out hr2 Tryz.underlying40 rfl (by kernel_rfl) ?_ ?_ ?_ ?_); rfl; rfl; rfl)
        | ((with_reducible refine wl_build 171 #[(0, .tmp 43), (1, .tmp 44), (2, .tmp 45), (3, .tmp 46)] (brCells bm (.slice A vs.length c) (Dg.branch n bm ks) z) ?_ ?_ ?_ ?_); rfl; rfl; exact HF.out))
      go_ret
      exact ⟨_, z, rfl, gro HE.out (below_box _ _), Blk.new _ _ _⟩
end Go.Proofs.YtpnakfeafekneaaGreatDoor

namespace Go.Proofs.YtpnakfeafekneaaGreatDoor
open Go.RowKit
set_option maxRecDepth 100000 in
theorem hdigit_ok [Inhabited LoT] (b n : Nat) (h1 : 1 ≤ n) (h2 : n ≤ 32) (d : List UInt8) (hd : d.length = 32) (hf : Dg.form n d = true) (i : Nat) (hi : i < 2 * n) (w : World) (hb : MapW w b n) :
    Calls Tryz.prog 96 #[ptr b, dg d, .int .i64 i] w fun e w' => e = .returned (.int .i64 (Dg.digit d i)) ∧ Below w.heap.size w w' := by
  have HL := hid (show (d.map b8).length = 32 by simp [hd])
  have HB := hid hb
  clear hb
  go_enter Tryz.func96, Tryz.ntmps96
  go_upto_region 1 with fail
  refine wp_world (fun w' => Blk w' w.heap.size 40 (d.map b8) ∧ Below w.heap.size w w' ∧ MapW w' b n) ⟨Blk.new w _ _, below_box _ _, HB.out.grown (below_box _ _)⟩ ?_
  rintro w1 ⟨hb1, hbl1, hm1⟩
  have q0 := Fut.cell (show w1.cell? ⟨b, 0, none⟩ = some (.int .i64 n) from hm1)
  have hcf : ∀ s : Fut w1, Calls Tryz.prog 89 #[.int .i64 n, dg d, .int .i64 i] s.v fun e w'' => e = .returned (.tuple #[.int .i64 (Dg.digit d i), .int .i64 0]) ∧ ∃ s' : Fut w1, w'' = s'.v := fun s => Calls.fut_of (at_ok n h1 h2 d hd hf i hi s.v)
  have HC := hid (And.intro hcf (And.intro hb1.whole hbl1))
  clear hcf hb1 hbl1 hm1
  refine wp_region_fut (by kernel_rfl) (by kernel_rfl) ?_
  repeat (first
    | (go_big_quiet_want; (with_reducible refine quiet_ld 40 (.tmp 4) w.heap.size 0 _ 32 _ HL.out (range_fut HC.out.2.1) Tryz.underlying40 rfl (by kernel_rfl) ?_ ?_ ?_); rfl; rfl; simp only [Act.put, List.setIfInBounds_toArray, List.set_cons_zero, List.set_cons_succ]; go_big_quiet_on)
    | go_big_quiet_step (with_reducible exact HC.out.1 _))
  refine wpQuiet_nil ?_
  rintro _ ⟨s, rfl⟩
  go_wp2_with fail
  go_ret
  exact ⟨rfl, HC.out.2.2.trans (s.below.mono HC.out.2.2.size)⟩

/-! ### twin -/
theorem tyd_setCells {t : TypeId} {A : Option Addr} : ∀ {w : World} (g o : Nat) (vs : List Value), Tyd w t A → Tyd (w.setCells g o vs) t A
  | _, _, _, [], h => h
  | _, g, o, v :: r, h => tyd_setCells g (o + 1) r (h.set _ _)
/-- A call's answer: a slice that reads as these cells. -/
def NewSl (t : TypeId) (w : World) (n : Nat) (cs : List Value) (e : Ending) (w' : World) : Prop := ∃ A c, e = .returned (.slice A n c) ∧ Below w.heap.size w w' ∧ Rd w' A cs ∧ n ≤ c ∧ (∀ a, A = some a → w.heap.size ≤ a.block) ∧ Tyd w' t A
theorem NewRow.sl {w w' : World} {t : TypeId} {size n : Nat} {cs : List Value} {e : Ending} (h : NewRow w t size n cs e w') : NewSl t w n cs e w' := by
  obtain ⟨v, h1, h2, h3, -⟩ := h
  obtain ⟨A, c, rfl, h4, h5⟩ := rd_own h3
  refine ⟨A, c, h1, h2, h4, h5, fun a e => ?_, own_tyd h3⟩
  subst e
  exact (h3.lt a.block rfl).1
theorem clone_sl [Inhabited LoT] (A : Option Addr) (c : Nat) (l : List UInt8) (w : World) (h : Rd w A (l.map b8)) (hl : l.length < 1099511627776) :
    Calls Tryz.prog 95 #[.slice A l.length c] w fun e w' => NewSl 5 w l.length (l.map b8) e w' :=
  (clone_bytes A l.length c (l.map b8) w (by simp) h (one_b8 _) (by omega)).mono fun _ _ h => h.sl
set_option maxRecDepth 100000 in
theorem htwin_any [Inhabited LoT] (A1 A2 : Option Addr) (c1 c2 : Nat) (k v : List UInt8) (w : World) (h1 : Rd w A1 (k.map b8)) (h2 : Rd w A2 (v.map b8)) (hk : k.length < 1048576) (hv : v.length < 1048576) (hlo : Lo ≤ w.heap.size) :
    Calls Tryz.prog 117 #[.slice A1 k.length c1, .slice A2 v.length c2] w fun e w' => ∃ x, e = .returned (.agg x.toArray) ∧ Below w.heap.size w w' ∧ PairAt w' x ⟨k, v⟩ := by
  have HA := hid (And.intro h1 h2)
  have HLO := hid hlo
  clear h1 h2 hlo
  go_enter Tryz.func117, Tryz.ntmps117
  go_upto_region 1 with fail
  refine wp_world (fun w' => Blk w' w.heap.size 166 [.slice none 0 0, .slice none 0 0] ∧ Below w.heap.size w w') ⟨Blk.new w _ _, below_box _ _⟩ ?_
  rintro w1 ⟨hb1, hbl1⟩
  have HB := hid (And.intro hb1 hbl1)
  clear hb1 hbl1
  go_wp2_with (first
    | (go_at_call 95
       refine (clone_sl A2 c2 v _ ((HA.out.2.grown HB.out.2).grown HV.out.1) (by omega)).mono ?_
       rintro e w3 ⟨A4, c4, rfl, hb3, ho3, hc4, hn4, hy4⟩
       have hbw : Below w1.heap.size w1 w3 := gro HV.out.1 hb3
       have ht := (HB.out.1.grown hbw).there 0 2 (Nat.le_refl _)
       have HY := hid (And.intro hb3 (And.intro ho3 (And.intro hc4 (And.intro hbw (And.intro hn4 hy4))))); clear hb3 ho3 hc4 hbw hn4 hy4)
    | (go_at_call 95
       refine (clone_sl A1 c1 k w1 (HA.out.1.grown HB.out.2) (by omega)).mono ?_
       rintro e w2 ⟨A3, c3, rfl, hb2, ho2, hc3, hn3, hy3⟩
       have HV := hid (And.intro hb2 (And.intro ho2 (And.intro hc3 (And.intro hn3 hy3)))); clear hb2 ho2 hc3 hn3 hy3)
    | ((with_reducible refine st_mid 166 (.tmp 4) (.tmp 9) w.heap.size 0 [.slice A3 k.length c3, .slice A4 v.length c4] 2 rfl ht (by kernel_rfl) ?_ ?_ ?_ ?_ ?_ ?_); (intro u hu; rcases List.mem_cons.1 hu with rfl | hu; rfl; rw [List.mem_singleton] at hu; subst hu; rfl); rfl; rfl; rfl; rfl))
  have hk1 : Kept (· = w.heap.size) w3 (w3.setCells w.heap.size 0 [.slice A3 k.length c3, .slice A4 v.length c4]) := (Kept.refl _ _).setN 0 _
  have hlt := HB.out.1.lt
  have hle := HV.out.1.size
  refine rt_cell w.heap.size 0 [.slice A3 k.length c3, .slice A4 v.length c4] 2 _ rfl (World.rangeAt_setCells_same _ _ _ _ ht) Tryz.underlying166 rfl (by kernel_rfl) rfl rfl rfl ⟨_, rfl, below_setCells _ (Nat.le_refl _) _ _ _ (HB.out.2.trans (HY.out.2.2.2.1.mono HB.out.2.size)), A3, c3, A4, c4, rfl, ?_, ?_, HV.out.2.2.1, HY.out.2.2.1, TyB.up (tyd_setCells _ _ _ (HV.out.2.2.2.2.grown HY.out.1)) HV.out.2.2.2.1 (Nat.le_trans HLO.out HB.out.2.size), TyB.up (tyd_setCells _ _ _ HY.out.2.2.2.2.2) HY.out.2.2.2.2.1 (Nat.le_trans HLO.out (Nat.le_trans HB.out.2.size HV.out.1.size))⟩
  · exact (HV.out.2.1.grown HY.out.1).kept hk1 fun a e _ h => by have := HV.out.2.2.2.1 a e; omega
  · exact HY.out.2.1.kept hk1 fun a e _ h => by have := HY.out.2.2.2.2.1 a e; omega
end Go.Proofs.YtpnakfeafekneaaGreatDoor

/- The reference's sha: its words' laws, plainly. -/
namespace Go.Proofs.YtpnakfeafekneaaGreatDoor
namespace Rsha
theorem ext32 {x y : UInt32} (h : x.toBitVec = y.toBitVec) : x = y := UInt32.toBitVec_inj.1 h
theorem choice_eq (e f g : UInt32) : g ^^^ e &&& (f ^^^ g) = e &&& f ^^^ ~~~e &&& g := by
  apply ext32
  simp only [UInt32.toBitVec_xor, UInt32.toBitVec_and, UInt32.toBitVec_not]
  ext i hi
  simp only [BitVec.getElem_xor, BitVec.getElem_and, BitVec.getElem_not]
  cases e.toBitVec[i] <;> cases f.toBitVec[i] <;> cases g.toBitVec[i] <;> rfl
theorem most_eq (a b c : UInt32) : a &&& b ||| c &&& (a ||| b) = a &&& b ^^^ a &&& c ^^^ b &&& c := by
  apply ext32
  simp only [UInt32.toBitVec_xor, UInt32.toBitVec_and, UInt32.toBitVec_or]
  ext i hi
  simp only [BitVec.getElem_xor, BitVec.getElem_and, BitVec.getElem_or]
  cases a.toBitVec[i] <;> cases b.toBitVec[i] <;> cases c.toBitVec[i] <;> rfl
theorem turn_eq (x : UInt32) (n : Nat) (h1 : 1 ≤ n) (h2 : n < 32) : x >>> UInt32.ofNat n + x <<< UInt32.ofNat (32 - n) = Sha.rotr n x := by
  unfold Sha.rotr
  apply ext32
  have e1 : (UInt32.ofNat n).toBitVec % 32#32 = BitVec.ofNat 32 n := by
    apply BitVec.eq_of_toNat_eq
    simp; omega
  have e2 : (UInt32.ofNat (32 - n)).toBitVec % 32#32 = BitVec.ofNat 32 (32 - n) := by
    apply BitVec.eq_of_toNat_eq
    simp; omega
  simp only [UInt32.toBitVec_add, UInt32.toBitVec_or, UInt32.toBitVec_shiftRight, UInt32.toBitVec_shiftLeft]
  rw [BitVec.add_eq_or_of_and_eq_zero, BitVec.or_comm]
  ext i hi
  have hm1 : n % 4294967296 % 32 = n := by omega
  have hm2 : (32 - n) % 4294967296 % 32 = 32 - n := by omega
  simp
  intro ha hb
  exfalso
  have hlt : n % 32 + i < 32 := by
    apply Classical.byContradiction
    intro hge
    rw [BitVec.getLsbD_of_ge _ _ (by omega)] at ha
    cases ha
  omega
end Rsha
end Go.Proofs.YtpnakfeafekneaaGreatDoor

/- The reference's sha: turn. -/
namespace Go.Proofs.YtpnakfeafekneaaGreatDoor
open Go.RowKit
theorem turn_val (x : UInt32) (n : Nat) (h1 : 1 ≤ n) (h2 : n < 32) : IntKind.u32.wrap (n32 x / 2 ^ n + IntKind.u32.wrap (n32 x * 2 ^ (32 - n))) = n32 (Sha.rotr n x) := by
  rw [u32_shl x (32 - n) (by omega), u32_shr x n h2, u32_add, Rsha.turn_eq x n h1 h2]
theorem turn_val2 (x : UInt32) (n : Nat) (h1 : 1 ≤ n) (h2 : n < 32) : (n32 x / 2 ^ n + n32 x * 2 ^ (32 - n)) % 4294967296 = n32 (Sha.rotr n x) := by
  rw [← turn_val x n h1 h2, IntKind.wrap_u32, IntKind.wrap_u32]
  generalize n32 x / 2 ^ n = a
  generalize n32 x * 2 ^ (32 - n) = b
  omega
theorem turn_any (x : UInt32) (n : Nat) (h1 : 1 ≤ n) (h2 : n < 32) (w : World) : Calls Tryz.prog 176 #[b32 x, .int .i64 n] w fun e w' => e = .returned (b32 (Sha.rotr n x)) ∧ ∃ s : Fut w, w' = s.v := by
  have HV := hid (turn_val2 x n h1 h2)
  go_enter Tryz.func176, Tryz.ntmps176
  simp only [b32]
  have i1 : (0 : Int) ≤ (n : Int) := by omega
  have i2 : ¬ (n : Int) < 0 := by omega
  have i3 : ¬ (32 - (n : Int)) < 0 := by omega
  have hw1 : IntKind.i64.wrap (32 - (n : Int)) = ((32 - n : Nat) : Int) := by rw [IntKind.wrap_i64]; omega
  go_upto_region 1 with fail
  refine wp_region_fut (by kernel_rfl) (by kernel_rfl) ?_
  repeat go_big_quiet_step (fail)
  refine wpQuiet_nil ?_
  rintro _ ⟨s, rfl⟩
  go_wp2_with fail
  go_ret
  exact ⟨ret_u32 HV.out, s, rfl⟩
end Go.Proofs.YtpnakfeafekneaaGreatDoor

/- The reference's sha: registers that are never moved; rounds, words, padding, plainly. -/
namespace Go.Proofs.YtpnakfeafekneaaGreatDoor
namespace Rsha
/-- The register at the place p once i rounds are done. -/
def place (s : Sha.St) (i p : Nat) : UInt32 := stf s ((p + i) % 8)
theorem place_zero (s : Sha.St) (p : Nat) (h : p < 8) : place s 0 p = stf s p := by
  unfold place; rw [Nat.add_zero, Nat.mod_eq_of_lt h]
theorem place_last (s : Sha.St) (p : Nat) (h : p < 8) : place s 64 p = stf s p := by
  unfold place; rw [show (p + 64) % 8 = p from by omega]
theorem place_at (s : Sha.St) (i j : Nat) (hi : i < 64) (hj : j < 8) : place s i ((64 - i + j) % 8) = stf s j := by
  unfold place; rw [show ((64 - i + j) % 8 + i) % 8 = j from by omega]
theorem stf_step (s : Sha.St) (i : Nat) (w : UInt32) (j : Nat) (hj : j < 7) : stf (Sha.step s i w) (j + 1) = if j = 3 then s.d + Sha.T1 s i w else stf s j := by
  match j, hj with | 0, _ => rfl | 1, _ => rfl | 2, _ => rfl | 3, _ => rfl | 4, _ => rfl | 5, _ => rfl | 6, _ => rfl
theorem place_step (s : Sha.St) (i : Nat) (w : UInt32) (p : Nat) (hi : i < 64) (hp : p < 8) :
    place (Sha.step s i w) (i + 1) p = if p = (64 - i + 7) % 8 then Sha.T1 s i w + Sha.T2 s else if p = (64 - i + 3) % 8 then s.d + Sha.T1 s i w else place s i p := by
  unfold place
  by_cases h7 : (p + i) % 8 = 7
  · rw [if_pos (by omega), show (p + (i + 1)) % 8 = 0 from by omega]; rfl
  · rw [if_neg (by omega), show (p + (i + 1)) % 8 = (p + i) % 8 + 1 from by omega, stf_step _ _ _ _ (by omega)]
    by_cases h3 : (p + i) % 8 = 3
    · rw [if_pos h3, if_pos (by omega)]
    · rw [if_neg h3, if_neg (by omega)]
/-- The reference's order of additions. -/
theorem W_ref (m : Nat → UInt8) (i : Nat) (h : ¬ i < 16) : Sha.W m i = Sha.W m (i - 16) + Sha.W m (i - 7) + Sha.sg0 (Sha.W m (i - 15)) + Sha.sg1 (Sha.W m (i - 2)) := by
  rw [Sha.W_high m i h, UInt32.add_assoc (Sha.W m (i - 16)) (Sha.sg0 _), UInt32.add_comm (Sha.sg0 _) (Sha.W m (i - 7)), ← UInt32.add_assoc]
theorem be_nat (a b c d : Nat) (hb : b < 256) (hc : c < 256) (hd : d < 256) : a <<< 24 ||| b <<< 16 ||| c <<< 8 ||| d = a * 16777216 + b * 65536 + c * 256 + d := by
  have e1 : a <<< 24 ||| b <<< 16 = (a * 256 + b) <<< 16 := by
    rw [← Nat.shiftLeft_add_eq_or_of_lt (show b <<< 16 < 2 ^ 24 from by rw [Nat.shiftLeft_eq]; omega)]
    simp only [Nat.shiftLeft_eq]; omega
  have e2 : (a * 256 + b) <<< 16 ||| c <<< 8 = ((a * 256 + b) * 256 + c) <<< 8 := by
    rw [← Nat.shiftLeft_add_eq_or_of_lt (show c <<< 8 < 2 ^ 16 from by rw [Nat.shiftLeft_eq]; omega)]
    simp only [Nat.shiftLeft_eq]; omega
  rw [e1, e2, ← Nat.shiftLeft_add_eq_or_of_lt (show d < 2 ^ 8 from hd), Nat.shiftLeft_eq]; omega
theorem be_add (a b c d : UInt8) : a.toUInt32 <<< 24 + b.toUInt32 <<< 16 + c.toUInt32 <<< 8 + d.toUInt32 = a.toUInt32 <<< 24 ||| b.toUInt32 <<< 16 ||| c.toUInt32 <<< 8 ||| d.toUInt32 := by
  apply UInt32.toNat_inj.1
  have ha := a.toNat_lt
  have hb := b.toNat_lt
  have hc := c.toNat_lt
  have hd := d.toNat_lt
  have s24 : (a.toUInt32 <<< 24).toNat = a.toNat <<< 24 := by simp [Nat.shiftLeft_eq]; omega
  have s16 : (b.toUInt32 <<< 16).toNat = b.toNat <<< 16 := by simp [Nat.shiftLeft_eq]; omega
  have s8 : (c.toUInt32 <<< 8).toNat = c.toNat <<< 8 := by simp [Nat.shiftLeft_eq]; omega
  simp only [UInt32.toNat_add, UInt32.toNat_or, s24, s16, s8, UInt8.toNat_toUInt32]
  rw [be_nat _ _ _ _ (by omega) (by omega) (by omega)]
  simp only [Nat.shiftLeft_eq]; omega
end Rsha
end Go.Proofs.YtpnakfeafekneaaGreatDoor

/- The reference's sha: big, First, words. -/
namespace Go.Proofs.YtpnakfeafekneaaGreatDoor
open Go.RowKit
theorem turn_fut {w0 : World} (s : Fut w0) (x : UInt32) (n : Nat) (h1 : 1 ≤ n) (h2 : n < 32) : Calls Tryz.prog 176 #[b32 x, .int .i64 n] s.v fun e w' => e = .returned (b32 (Sha.rotr n x)) ∧ ∃ s' : Fut w0, w' = s'.v :=
  (turn_any x n h1 h2 s.v).mono fun e w' ⟨he, s', hs'⟩ => ⟨he, ⟨s'.v, s.below.trans (s'.below.mono s.below.size)⟩, hs'⟩
theorem big_any (g o c k : Nat) (l : List UInt8) (hl : l.length = 64) (hk : k < 16) (w : World) (hr : w.rangeAt g o (l.map b8)) :
    Calls Tryz.prog 206 #[.slice (some ⟨g, o, none⟩) 64 c, .int .i64 (4 * (k : Int))] w fun e w' => e = .returned (b32 (Sha.be (fun j => l.getD j 0) (4 * k))) ∧ ∃ s : Fut w, w' = s.v := by
  have q0 := Fut.cell (hr (4 * k) (b8 (l.getD (4 * k) 0)) (by simp [show 4 * k < l.length by omega]))
  have q1 := Fut.cell (hr (4 * k + 1) (b8 (l.getD (4 * k + 1) 0)) (by simp [show 4 * k + 1 < l.length by omega]))
  have q2 := Fut.cell (hr (4 * k + 2) (b8 (l.getD (4 * k + 2) 0)) (by simp [show 4 * k + 2 < l.length by omega]))
  have q3 := Fut.cell (hr (4 * k + 3) (b8 (l.getD (4 * k + 3) 0)) (by simp [show 4 * k + 3 < l.length by omega]))
  have hv := Rsha.be_add (l.getD (4 * k) 0) (l.getD (4 * k + 1) 0) (l.getD (4 * k + 2) 0) (l.getD (4 * k + 3) 0)
  have HV := hid hv
  clear hv hr
  go_enter Tryz.func206, Tryz.ntmps206
  go_upto_region 1 with fail
  refine wp_region_fut (by kernel_rfl) (by kernel_rfl) ?_
  repeat go_big_quiet_step (fail)
  refine wpQuiet_nil ?_
  rintro _ ⟨s, rfl⟩
  go_wp2_with fail
  go_ret
  exact ⟨by rw [show Sha.be (fun j => l.getD j 0) (4 * k) = _ from HV.out.symm]; rfl, s, rfl⟩
theorem rfirst_any (w : World) : Calls Tryz.prog 122 #[] w fun e w' => e = .returned (.agg (stl Sha.H0).toArray) ∧ Below w.heap.size w w' := by
  go_enter Tryz.func122, Tryz.ntmps122
  go_wp2_with fail
  exact post_cell rfl w.heap.size 0 rfl (stl Sha.H0) (Blk.new w _ (stl Sha.H0)).whole _ Tryz.underlying199 rfl (by kernel_rfl) rfl ⟨rfl, (Below.refl _ _).alloc (Nat.le_refl _) _⟩
set_option maxRecDepth 100000 in
theorem build_words (w : World) : (Instr.build 245 #[(0, .int .u32 1116352408), (1, .int .u32 1899447441), (2, .int .u32 3049323471), (3, .int .u32 3921009573), (4, .int .u32 961987163), (5, .int .u32 1508970993), (6, .int .u32 2453635748), (7, .int .u32 2870763221), (8, .int .u32 3624381080), (9, .int .u32 310598401), (10, .int .u32 607225278), (11, .int .u32 1426881987), (12, .int .u32 1925078388), (13, .int .u32 2162078206), (14, .int .u32 2614888103), (15, .int .u32 3248222580), (16, .int .u32 3835390401), (17, .int .u32 4022224774), (18, .int .u32 264347078), (19, .int .u32 604807628), (20, .int .u32 770255983), (21, .int .u32 1249150122), (22, .int .u32 1555081692), (23, .int .u32 1996064986), (24, .int .u32 2554220882), (25, .int .u32 2821834349), (26, .int .u32 2952996808), (27, .int .u32 3210313671), (28, .int .u32 3336571891), (29, .int .u32 3584528711), (30, .int .u32 113926993), (31, .int .u32 338241895), (32, .int .u32 666307205), (33, .int .u32 773529912), (34, .int .u32 1294757372), (35, .int .u32 1396182291), (36, .int .u32 1695183700), (37, .int .u32 1986661051), (38, .int .u32 2177026350), (39, .int .u32 2456956037), (40, .int .u32 2730485921), (41, .int .u32 2820302411), (42, .int .u32 3259730800), (43, .int .u32 3345764771), (44, .int .u32 3516065817), (45, .int .u32 3600352804), (46, .int .u32 4094571909), (47, .int .u32 275423344), (48, .int .u32 430227734), (49, .int .u32 506948616), (50, .int .u32 659060556), (51, .int .u32 883997877), (52, .int .u32 958139571), (53, .int .u32 1322822218), (54, .int .u32 1537002063), (55, .int .u32 1747873779), (56, .int .u32 1955562222), (57, .int .u32 2024104815), (58, .int .u32 2227730452), (59, .int .u32 2361852424), (60, .int .u32 2428436474), (61, .int .u32 2756734187), (62, .int .u32 3204031479), (63, .int .u32 3329325298)]).run Tryz.prog w = .ok (.agg (Sha.kList.map b32).toArray) w := by kernel_rfl
attribute [-go_sem] Instr.build Instr.buildSlice in
set_option maxRecDepth 100000 in
theorem rwords_any (w : World) : Calls Tryz.prog 175 #[] w fun e w' => e = .returned (.agg (Sha.kList.map b32).toArray) ∧ Below w.heap.size w w' := by
  have h1 : ∀ v ∈ Sha.kList.map b32, v.oneCell' = true := by
    intro v hv
    simp only [List.mem_map] at hv
    obtain ⟨i, -, rfl⟩ := hv
    rfl
  have hb := build_words
  obtain ⟨L, hL⟩ : ∃ L, L = Sha.kList.map b32 := ⟨_, rfl⟩
  have hll : L.length = 64 := by rw [hL]; rfl
  rw [← hL] at h1 hb ⊢
  clear hL
  go_enter Tryz.func175, Tryz.ntmps175
  go_wp2_with (
    ((with_reducible refine st_new 245 (.tmp 0) (.tmp 1) _ _ L 64 hll ?_ (by kernel_rfl) h1 ?_ ?_ ?_ ?_ ?_); rfl; rfl; rfl; rfl; rfl))
  exact rt_cell w.heap.size 0 _ 64 _ hll (Blk.new w 245 L).whole Tryz.underlying245 rfl (by kernel_rfl) rfl rfl rfl ⟨rfl, (Below.refl _ _).alloc (Nat.le_refl _) _⟩
end Go.Proofs.YtpnakfeafekneaaGreatDoor

/- The reference's sha: spread. -/
namespace Go.Proofs.YtpnakfeafekneaaGreatDoor
open Go.RowKit
theorem turn_fut2 {w0 : World} (s : Fut w0) (x : UInt32) : Calls Tryz.prog 176 #[b32 x, .int .i64 2] s.v fun e w' => e = .returned (b32 (Sha.rotr 2 x)) ∧ ∃ s' : Fut w0, w' = s'.v := turn_fut s x 2 (by decide) (by decide)
theorem turn_fut6 {w0 : World} (s : Fut w0) (x : UInt32) : Calls Tryz.prog 176 #[b32 x, .int .i64 6] s.v fun e w' => e = .returned (b32 (Sha.rotr 6 x)) ∧ ∃ s' : Fut w0, w' = s'.v := turn_fut s x 6 (by decide) (by decide)
theorem turn_fut7 {w0 : World} (s : Fut w0) (x : UInt32) : Calls Tryz.prog 176 #[b32 x, .int .i64 7] s.v fun e w' => e = .returned (b32 (Sha.rotr 7 x)) ∧ ∃ s' : Fut w0, w' = s'.v := turn_fut s x 7 (by decide) (by decide)
theorem turn_fut11 {w0 : World} (s : Fut w0) (x : UInt32) : Calls Tryz.prog 176 #[b32 x, .int .i64 11] s.v fun e w' => e = .returned (b32 (Sha.rotr 11 x)) ∧ ∃ s' : Fut w0, w' = s'.v := turn_fut s x 11 (by decide) (by decide)
theorem turn_fut13 {w0 : World} (s : Fut w0) (x : UInt32) : Calls Tryz.prog 176 #[b32 x, .int .i64 13] s.v fun e w' => e = .returned (b32 (Sha.rotr 13 x)) ∧ ∃ s' : Fut w0, w' = s'.v := turn_fut s x 13 (by decide) (by decide)
theorem turn_fut17 {w0 : World} (s : Fut w0) (x : UInt32) : Calls Tryz.prog 176 #[b32 x, .int .i64 17] s.v fun e w' => e = .returned (b32 (Sha.rotr 17 x)) ∧ ∃ s' : Fut w0, w' = s'.v := turn_fut s x 17 (by decide) (by decide)
theorem turn_fut18 {w0 : World} (s : Fut w0) (x : UInt32) : Calls Tryz.prog 176 #[b32 x, .int .i64 18] s.v fun e w' => e = .returned (b32 (Sha.rotr 18 x)) ∧ ∃ s' : Fut w0, w' = s'.v := turn_fut s x 18 (by decide) (by decide)
theorem turn_fut19 {w0 : World} (s : Fut w0) (x : UInt32) : Calls Tryz.prog 176 #[b32 x, .int .i64 19] s.v fun e w' => e = .returned (b32 (Sha.rotr 19 x)) ∧ ∃ s' : Fut w0, w' = s'.v := turn_fut s x 19 (by decide) (by decide)
theorem turn_fut22 {w0 : World} (s : Fut w0) (x : UInt32) : Calls Tryz.prog 176 #[b32 x, .int .i64 22] s.v fun e w' => e = .returned (b32 (Sha.rotr 22 x)) ∧ ∃ s' : Fut w0, w' = s'.v := turn_fut s x 22 (by decide) (by decide)
theorem turn_fut25 {w0 : World} (s : Fut w0) (x : UInt32) : Calls Tryz.prog 176 #[b32 x, .int .i64 25] s.v fun e w' => e = .returned (b32 (Sha.rotr 25 x)) ∧ ∃ s' : Fut w0, w' = s'.v := turn_fut s x 25 (by decide) (by decide)
def Rsha.ws (m : Nat → UInt8) : List Value := (List.range 64).map fun i => b32 (Sha.W m i)
theorem Rsha.ws_len (m : Nat → UInt8) : (Rsha.ws m).length = 64 := by simp [Rsha.ws]
theorem Rsha.ws_get (m : Nat → UInt8) (i : Nat) (h : i < 64) : (Rsha.ws m)[i]? = some (b32 (Sha.W m i)) := by simp [Rsha.ws, h]
theorem Rsha.ws_one (m : Nat → UInt8) : ∀ v ∈ Rsha.ws m, v.oneCell' = true := by
  intro v hv
  simp only [Rsha.ws, List.mem_map] at hv
  obtain ⟨i, -, rfl⟩ := hv
  rfl
theorem row_fut {wr : World} {b : Nat} {t : TypeId} {n : Nat} {f : Nat → Value} (h : wr.rowIs b t n f) (s : Fut wr) : s.v.rowIs b t n f := h.of_block (s.below.block _ h.lt)
/-- Two new blocks. -/
theorem two_new (w : World) (A B : Obj) : ((w.alloc A).alloc B).heap[w.heap.size]? = some A ∧ ((w.alloc A).alloc B).heap[w.heap.size + 1]? = some B ∧ Below w.heap.size w ((w.alloc A).alloc B) := by
  have sz : ∀ (w : World) (o : Obj), (w.alloc o).heap.size = w.heap.size + 1 := fun w o => by simp
  refine ⟨?_, ?_, ?_⟩
  · rw [Below.heap_alloc _ _ _ (by simp)]; exact heap_alloc_new w A
  · rw [← sz w A]; exact heap_alloc_new _ _
  · exact ((Below.refl _ _).alloc (Nat.le_refl _) _).alloc (by simp) _
structure Sp (m : Nat → UInt8) (w : World) (k : Nat) (wr : World) : Prop where
  r0 : wr.rowIs w.heap.size 245 64 (fun _ => b32 0)
  r1 : wr.rowIs (w.heap.size + 1) 245 64 (fun i => b32 (if i < k then Sha.W m i else 0))
  bl : Below w.heap.size w wr
theorem Sp.start (m : Nat → UInt8) (w : World) : Sp m w 0 ((w.alloc (.cells (Array.replicate 64 (.int .u32 0)) 245)).alloc (.cells (Array.replicate 64 (.int .u32 0)) 245)) := by
  obtain ⟨F0, F1, F2⟩ := two_new w (.cells (Array.replicate 64 (.int .u32 0)) 245) (.cells (Array.replicate 64 (.int .u32 0)) 245)
  exact ⟨row_of _ _ _ _ 64 (fun i => b32 0) F0 rfl (by intro i hi; simp [Array.getElem?_replicate, hi, n32_zero]),
    row_of _ _ _ _ 64 (fun i => b32 (if i < 0 then Sha.W m i else 0)) F1 rfl (by intro i hi; simp [Array.getElem?_replicate, hi, n32_zero]), F2⟩
theorem Sp.fut {m : Nat → UInt8} {w wr : World} {k : Nat} (h : Sp m w k wr) (s : Fut wr) : Sp m w k s.v := ⟨row_fut h.r0 s, row_fut h.r1 s, h.bl.trans (s.below.mono h.bl.size)⟩
theorem Sp.next {m : Nat → UInt8} {w wr : World} {k : Nat} (hC : Sp m w k wr) {v : Int} (hv : v = n32 (Sha.W m k)) :
    Sp m w (k + 1) (wr.setCell ⟨w.heap.size + 1, k, none⟩ (.int .u32 v)) := by
  subst hv
  refine ⟨hC.r0.setOther (by simp <;> omega) _, ?_, hC.bl.setCell (by simp <;> omega) _⟩
  refine (hC.r1.set k (b32 (Sha.W m k))).congr fun i hi => ?_
  by_cases h : i = k
  · subst h; simp
  · rw [if_neg h]
    by_cases h' : i < k
    · rw [if_pos h', if_pos (by omega)]
    · rw [if_neg h', if_neg (by omega)]
set_option maxRecDepth 100000 in
set_option maxHeartbeats 1000000 in
theorem spread_any (g o c : Nat) (l : List UInt8) (hl : l.length = 64) (w : World) (hr : w.rangeAt g o (l.map b8)) :
    Calls Tryz.prog 174 #[.slice (some ⟨g, o, none⟩) 64 c] w fun e w' => e = .returned (.agg (Rsha.ws (fun j => l.getD j 0)).toArray) ∧ Below w.heap.size w w' := by
  obtain ⟨m, hm⟩ : ∃ m : Nat → UInt8, m = fun j => l.getD j 0 := ⟨_, rfl⟩
  have hgl := range_lt hr (by simp [hl])
  have hbig : ∀ (k : Nat), k < 16 → ∀ w', Below w.heap.size w w' → Calls Tryz.prog 206 #[.slice (some ⟨g, o, none⟩) 64 c, .int .i64 (4 * (k : Int))] w' fun e w'' => e = .returned (b32 (Sha.be m (4 * k))) ∧ ∃ s : Fut w', w'' = s.v := fun k hk w' hb => by
    rw [hm]; exact big_any g o c k l hl hk w' (range_below hr hb hgl)
  have HG := hid hbig
  clear hbig
  have HR := hid hr
  clear hr
  rw [← hm]
  clear hm
  go_enter Tryz.func174, Tryz.ntmps174
  go_wp2_with fail
  go_loopg [4] 64 (fun g i wr => ∃ k : Nat, k + g = 64 ∧ i = .int .i64 k ∧ Sp m w k wr)
  case atStart => exact ⟨0, by omega, rfl, Sp.start m w⟩
  case round =>
    obtain ⟨k, hk, rfl, hC⟩ := hrel
    have HC := hid hC
    clear hC
    by_cases hlt : k < 64
    · by_cases h16 : k < 16
      · have c4 : ∀ s : Fut wr, s.v.cell? ⟨w.heap.size + 1, k, none⟩ = some (b32 (if k < k then Sha.W m k else 0)) := fun s => (HC.out.fut s).r1.cell hlt
        have c5 : ∀ s : Fut wr, s.v.frozen? ⟨w.heap.size + 1, k, none⟩ = false := fun s => (HC.out.fut s).r1.frozen _
        go_wp2_with (go_at_call 206
                     refine (HG.out k h16 wr HC.out.bl).mono ?_
                     rintro e w' ⟨rfl, s, rfl⟩)
        go_roundg (gk - 1)
        case measure => omega
        case rel => exact ⟨k + 1, by omega, by go_num, (HC.out.fut s).next (by rw [Sha.W_low m k h16])⟩
      · have e15 := HC.out.r1.cell (i := k - 15) (by omega)
        have e2 := HC.out.r1.cell (i := k - 2) (by omega)
        have e16 := HC.out.r1.cell (i := k - 16) (by omega)
        have e7 := HC.out.r1.cell (i := k - 7) (by omega)
        rw [if_pos (by omega)] at e15 e2 e16 e7
        have q15 := Fut.cell e15
        have q2 := Fut.cell e2
        have E16 := hid e16
        have E7 := hid e7
        clear e15 e2 e16 e7
        go_upto_region 7 with fail
        refine wp_region_fut (by kernel_rfl) (by kernel_rfl) ?_
        repeat go_big_quiet_step (fail)
        refine wpQuiet_nil ?_
        rintro _ ⟨s, rfl⟩
        have HC2 := hid (HC.out.fut s)
        have q16 := Fut.cell (Fut.cell E16.out s)
        have q7 := Fut.cell (Fut.cell E7.out s)
        clear q15 q2
        clear HC E16 E7
        go_upto_region 8 with fail
        refine wp_region_fut_tail 28 (by kernel_rfl) (by kernel_rfl) ?_
        dsimp only [List.take_succ_cons, List.take_zero, List.drop_succ_cons, List.drop_zero]
        repeat go_big_quiet_step (first | with_reducible exact turn_fut7 _ _ | with_reducible exact turn_fut18 _ _ | with_reducible exact turn_fut17 _ _ | with_reducible exact turn_fut19 _ _)
        refine wpQuiet_nil ?_
        rintro _ ⟨s2, rfl⟩
        have HC3 := hid (HC2.out.fut s2)
        clear HC2 q16 q7
        have c4 : s2.v.cell? ⟨w.heap.size + 1, k, none⟩ = some (b32 (if k < k then Sha.W m k else 0)) := HC3.out.r1.cell hlt
        have c5 : s2.v.frozen? ⟨w.heap.size + 1, k, none⟩ = false := HC3.out.r1.frozen _
        go_wp2_with fail
        go_roundg (gk - 1)
        case measure => omega
        case rel => exact ⟨k + 1, by omega, by go_num, HC3.out.next (by rw [Rsha.W_ref m k h16]; rfl)⟩
    · obtain rfl : k = 64 := by omega
      have hlw : wr.rangeAt (w.heap.size + 1) 0 (Rsha.ws m) := World.rangeAt_of_row HC.out.r1 0 _ (by intro j hj; rw [Rsha.ws_len] at hj; rw [Nat.zero_add, if_pos hj]; exact Rsha.ws_get m j hj) (by rw [Rsha.ws_len]; exact Nat.le_refl _)
      have ht : wr.there w.heap.size 0 64 := World.there_of_row HC.out.r0 0 64 (by omega)
      have HO := hid (Rsha.ws_len m)
      go_wp2_with (first
        | ((with_reducible refine ld_mid 245 (.tmp 3) (w.heap.size + 1) 0 _ 64 _ HO.out hlw Tryz.underlying245 rfl (by kernel_rfl) ?_ ?_ ?_ ?_); rfl; rfl; rfl)
        | ((with_reducible refine st_mid 245 (.tmp 2) (.tmp 56) w.heap.size 0 _ 64 HO.out ht (by kernel_rfl) (Rsha.ws_one m) ?_ ?_ ?_ ?_ ?_); rfl; rfl; rfl; rfl))
      exact rt_cell w.heap.size 0 _ 64 _ HO.out (World.rangeAt_setCells_same _ _ _ _ (by rw [HO.out]; exact ht)) Tryz.underlying245 rfl (by kernel_rfl) rfl rfl rfl ⟨rfl, below_setCells _ (Nat.le_refl _) _ _ _ HC.out.bl⟩
end Go.Proofs.YtpnakfeafekneaaGreatDoor
