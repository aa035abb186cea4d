/- Part 12 of this proof: D4, D5. -/
import Derived.Test.YtpnakfeafekneaaGreatDoorG11
set_option linter.unusedSimpArgs false
set_option linter.unusedVariables false
namespace Go.Proofs.YtpnakfeafekneaaGreatDoor
open Go.RowKit
theorem bytes_new {w w' : World} {p : List UInt8} {e : Ending} (h : NewRow w 5 1 p.length (p.map b8) e w') : ∃ A c, e = .returned (.slice A p.length c) ∧ Below w.heap.size w w' ∧ Rd w' A (p.map b8) ∧ p.length ≤ c := by
  obtain ⟨v, rfl, hb, hown, _⟩ := h
  obtain ⟨A, c, rfl, hr, hc⟩ := rd_own hown
  exact ⟨A, c, rfl, hb, hr, hc⟩
structure Res (w w1 : World) : Prop where
  size : w1.heap.size = w.heap.size + 1
  blk : Blk w1 w.heap.size 40 (List.replicate 32 (b8 0))
  bl : Below w.heap.size w w1
theorem Res.new (w : World) : Res w (w.alloc (.cells (List.replicate 32 (b8 0)).toArray 40)) := ⟨by simp, Blk.new _ _ _, below_box _ _⟩
theorem Res.there {w w1 w2 : World} (h : Res w w1) (hb : Below w1.heap.size w1 w2) : w2.there w.heap.size 0 32 := (h.blk.grown hb).there 0 32 (by simp)
theorem Res.below {w w1 w2 : World} (h : Res w w1) (hb : Below w1.heap.size w1 w2) : Below w.heap.size w w2 := h.bl.trans (hb.mono h.bl.size)
theorem Res.words {w w1 : World} (h : Res w w1) (hw : Words w) : Words w1 := hw.below h.bl
theorem res_end {fn : Func} {R : Ending → World → Prop} {a : Act} {w w2 : World} {d : List UInt8} {p u : Tmp} (hd : ((d.map b8)).length = 32) (ht : w2.there w.heap.size 0 32) (hb : Below w.heap.size w w2)
    (h : fn.results = #[.cell p 40, .tmp u]) (hp : a.tmps.getD p undef = .pointer (some ⟨w.heap.size, 0, none⟩)) (hu : a.tmps.getD u undef = .int .i64 0) (hdf : a.defers = [])
    (hR : ∀ w', Below w.heap.size w w' → R (.returned (.tuple #[dg d, .int .i64 0])) w') : bodyPost Tryz.prog fn R .ret a (w2.setCells w.heap.size 0 (d.map b8)) :=
  rt_cell_tmp w.heap.size 0 _ 32 _ hd (World.rangeAt_setCells_same _ _ _ _ (by rw [hd]; exact ht)) Tryz.underlying40 rfl (by kernel_rfl) h hp hdf (by rw [hu]; exact hR _ (below_setCells _ (Nat.le_refl _) _ _ _ hb))
theorem rd_box1 (w : World) (v : Value) (t : TypeId) : Rd (w.alloc (.cells #[v] t)) (some ⟨w.heap.size, 0, none⟩) [v] := Rd.of _ (Blk.new w t [v]).whole
theorem sum1_any (n : Nat) (h1 : 1 ≤ n) (h2 : n ≤ 32) (v : Value) (p : List UInt8) (w : World) (hv : BytesAt w v p) (hw : Words w) (hlen : p.length < 576460752303423488) :
    Calls Tryz.prog 129 #[.int .i64 n, .slice (some ⟨w.heap.size, 0, none⟩) 1 1] (w.alloc (.cells #[v] 34)) fun e w' => e = .returned (.tuple #[dg (Dg.sum n p), .int .i64 0]) ∧ Below w.heap.size w w' := by
  have hb := below_box w (.cells #[v] 34)
  refine (sumv_any n h1 h2 _ 1 [v] [p] _ (rd_box1 w v _) (RowsAt.one (hv.grown hb)) (hw.below hb) (by simpa using hlen) (by simp)).mono ?_
  rintro e w' ⟨rfl, h⟩
  exact ⟨by simp, hb.trans (h.mono hb.size)⟩
set_option maxRecDepth 100000 in
theorem noLog_any (n : Nat) (h1 : 1 ≤ n) (h2 : n ≤ 32) (w : World) (hw : Words w) :
    Calls Tryz.prog 181 #[.int .i64 n] w fun e w' => e = .returned (.tuple #[dg (Dg.noLog n), .int .i64 0]) ∧ Below w.heap.size w w' := by
  have hcl := Dg.sum_length n [] h2
  have HC := hid (show ((Dg.noLog n).map b8).length = 32 by unfold Dg.noLog; simp [hcl])
  clear hcl
  go_enter Tryz.func181, Tryz.ntmps181
  go_upto_region 1 with fail
  refine wp_world (Res w) (Res.new w) ?_
  rintro w1 hr
  have HR := hid hr
  clear hr
  go_wp2_with (first
    | (go_at_call 129; refine (sumv_any n h1 h2 none 0 [] [] _ (Rd.nil _ _) (RowsAt.nil _) (HR.out.words hw) (by simp) (by simp)).mono ?_; rintro e w2 ⟨rfl, hb⟩
       have ht := HR.out.there hb; have HB := hid hb; clear hb)
    | ((with_reducible refine st_mid 40 (.tmp 2) (.tmp 6) w.heap.size 0 ((Dg.noLog n).map b8) 32 HC.out ht (by kernel_rfl) (one_b8 _) ?_ ?_ ?_ ?_ ?_); rfl; rfl; rfl; rfl))
  exact res_end HC.out ht (HR.out.below HB.out) rfl rfl rfl rfl (fun _ h => ⟨rfl, h⟩)
set_option maxRecDepth 100000 in
theorem noMap_any (n : Nat) (h1 : 1 ≤ n) (h2 : n ≤ 32) (w : World) (hw : Words w) :
    Calls Tryz.prog 157 #[.int .i64 n] w fun e w' => e = .returned (.tuple #[dg (Dg.noMap n), .int .i64 0]) ∧ Below w.heap.size w w' := by
  have hcl := Dg.sum_length n [5] h2
  have HC := hid (show ((Dg.noMap n).map b8).length = 32 by unfold Dg.noMap; simp [hcl])
  clear hcl
  go_enter Tryz.func157, Tryz.ntmps157
  go_upto_region 1 with fail
  refine wp_world (Res w) (Res.new w) ?_
  rintro w1 hr
  have HR := hid hr
  clear hr
  go_wp2_with (first
    | (go_at_call 129
       have hz : (w1.alloc (.cells #[b8 5] 5)).heap.size = w1.heap.size + 1 := by simp
       have hb1 := below_box w1 (.cells #[b8 5] 5)
       have := sum1_any n h1 h2 (.slice (some ⟨w1.heap.size, 0, none⟩) 1 1) [5] (w1.alloc (.cells #[b8 5] 5)) ⟨_, _, rfl, rd_box w1 5, by simp⟩ ((HR.out.words hw).below hb1) (by simp)
       rw [hz] at this
       refine this.mono ?_; rintro e w2 ⟨rfl, hb⟩
       have hb2 : Below w1.heap.size w1 w2 := hb1.trans (hb.mono (by omega))
       have ht := HR.out.there hb2; have HB := hid hb2; clear hb hb1 hb2 this hz)
    | ((with_reducible refine st_mid 40 (.tmp 2) (.tmp 8) w.heap.size 0 ((Dg.noMap n).map b8) 32 HC.out ht (by kernel_rfl) (one_b8 _) ?_ ?_ ?_ ?_ ?_); rfl; rfl; rfl; rfl))
  exact res_end HC.out ht (HR.out.below HB.out) rfl rfl rfl rfl (fun _ h => ⟨rfl, h⟩)
set_option maxRecDepth 100000 in
theorem of_ok (n : Nat) (h1 : 1 ≤ n) (h2 : n ≤ 32) (v : Value) (p : List UInt8) (w : World) (hv : BytesAt w v p) (hw : Words w) (hlen : p.length < 576460752303423488) :
    Calls Tryz.prog 80 #[.int .i64 n, v, .int .i64 0] w fun e w' => e = .returned (.tuple #[dg (Dg.sum n p), .int .i64 0]) ∧ Below w.heap.size w w' := by
  have hcl := Dg.sum_length n p h2
  have HC := hid (show ((Dg.sum n p).map b8).length = 32 by simp [hcl])
  clear hcl
  obtain ⟨A, c, rfl, hv1, hv2⟩ := hv
  have hv : BytesAt w (.slice A p.length c) p := ⟨A, c, rfl, hv1, hv2⟩
  go_enter Tryz.func80, Tryz.ntmps80
  go_upto_region 1 with fail
  refine wp_world (Res w) (Res.new w) ?_
  rintro w1 hr
  have HR := hid hr
  clear hr
  go_wp2_with (first
    | (go_at_call 129
       refine (sum1_any n h1 h2 _ p w1 (hv.grown HR.out.bl) (HR.out.words hw) hlen).mono ?_
       rintro e w2 ⟨rfl, hb⟩
       have ht := HR.out.there hb; have HB := hid hb; clear hb)
    | ((with_reducible refine st_mid 40 (.tmp 6) (.tmp 16) w.heap.size 0 ((Dg.sum n p).map b8) 32 HC.out ht (by kernel_rfl) (one_b8 _) ?_ ?_ ?_ ?_ ?_); rfl; rfl; rfl; rfl))
  exact res_end HC.out ht (HR.out.below HB.out) rfl rfl rfl rfl (fun _ h => ⟨rfl, h⟩)
structure Wr (B g : Nat) (w0 w : World) (l : List UInt8) : Prop where
  wr : WrB w g l
  bl : Below B w0 w
  far : ∀ k, k < w.heap.size → WrS w g k → B ≤ k
theorem Wr.new (w : World) : Wr w.heap.size w.heap.size w (w.alloc (.cells #[.slice none 0 0] 184)) [] := by
  refine ⟨WrB.new w, below_box _ _, fun k hk hs => ?_⟩
  rcases hs with rfl | ⟨v, h1, h2⟩
  · exact Nat.le_refl _
  · have hb := Blk.new w 184 [.slice none 0 0]
    unfold Blk at h1 hb
    rw [hb] at h1; cases h1; cases h2
theorem Wr.step {B g : Nat} {w0 w w' : World} {l l' : List UInt8} (h : Wr B g w0 w l) (hw : WrB w' g l') (hk : WK g w w') : Wr B g w0 w' l' :=
  ⟨hw, ⟨hk.1.os.trans h.bl.os, hk.1.tape.trans h.bl.tape, hk.1.output.trans h.bl.output, Nat.le_trans h.bl.size hk.1.size, fun k hkB => by
    rcases Nat.lt_or_ge k w.heap.size with hlt | hge
    · exact (hk.1.block k hlt (fun hs => by have := h.far k hlt hs; omega)).trans (h.bl.block k hkB)
    · have := h.wr.lt
      have := h.far g this (.inl rfl)
      omega⟩, fun k hkl hs => by
    rcases Nat.lt_or_ge k w.heap.size with hlt | hge
    · exact h.far k hlt (hk.2 k hlt hs)
    · have := h.wr.lt
      have := h.far g this (.inl rfl)
      omega⟩
theorem tagged_any (t : UInt8) (p : List UInt8) (A : Option Addr) (c : Nat) (w : World) (hp : Rd w A (p.map b8)) (hlen : p.length < 1099511627776) :
    Calls Tryz.prog 190 #[b8 t, .slice A p.length c] w fun e w' => NewRow w 5 1 (t :: p).length ((t :: p).map b8) e w' := by
  go_enter Tryz.func190, Tryz.ntmps190
  go_upto_region 2 with fail
  refine wp_world (fun w' => Wr w.heap.size w.heap.size w w' []) (Wr.new w) ?_
  rintro w1 hr
  have HR := hid hr
  clear hr
  go_wp2_with (first
    | (go_at_call 126
       refine (u8_any w.heap.size [] t _ HR.out.wr (by simp)).mono ?_
       rintro e w2 ⟨rfl, h1, h2⟩
       have HS := hid (HR.out.step h1 h2)
       clear h1 h2)
    | (go_at_call 128
       refine (raw_any w.heap.size ([] ++ [t]) p A c _ HS.out.wr (hp.grown HS.out.bl) (by simp; omega)).mono ?_
       rintro e w3 ⟨rfl, h1, h2⟩
       have HT := hid (HS.out.step h1 h2)
       clear h1 h2)
    | (go_at_call 112
       refine (bytes_any w.heap.size ([] ++ [t] ++ p) _ HT.out.wr (by simp; omega)).mono ?_
       rintro e w4 h1
       have HU := hid h1
       clear h1
       obtain ⟨v, rfl, -⟩ := HU.out))
  go_ret
  obtain ⟨v', hv, h1, h2, h3⟩ := HU.out
  cases hv
  exact ⟨v, rfl, HT.out.bl.trans (h1.mono HT.out.bl.size), own_base h2 (fun k hk => Nat.le_trans HT.out.bl.size (h2.lt k hk).1), h3⟩
end Go.Proofs.YtpnakfeafekneaaGreatDoor

namespace Go.Proofs.YtpnakfeafekneaaGreatDoor
open Go.RowKit
theorem leafIn_any (p : List UInt8) (A : Option Addr) (c : Nat) (w : World) (hp : Rd w A (p.map b8)) (hlen : p.length < 1099511627776) :
    Calls Tryz.prog 159 #[.slice A p.length c] w fun e w' => NewRow w 5 1 (Dg.leafIn p).length ((Dg.leafIn p).map b8) e w' := by
  go_enter Tryz.func159, Tryz.ntmps159
  go_wp2_with (go_at_call 190; refine (tagged_any 0 p A c w hp hlen).mono ?_; rintro e w1 ⟨v, rfl, h⟩; have HN := hid h; clear h)
  go_ret
  exact ⟨v, rfl, HN.out⟩
theorem keyIn_any (p : List UInt8) (A : Option Addr) (c : Nat) (w : World) (hp : Rd w A (p.map b8)) (hlen : p.length < 1099511627776) :
    Calls Tryz.prog 138 #[.slice A p.length c] w fun e w' => NewRow w 5 1 (Dg.keyIn p).length ((Dg.keyIn p).map b8) e w' := by
  go_enter Tryz.func138, Tryz.ntmps138
  go_wp2_with (go_at_call 190; refine (tagged_any 2 p A c w hp hlen).mono ?_; rintro e w1 ⟨v, rfl, h⟩; have HN := hid h; clear h)
  go_ret
  exact ⟨v, rfl, HN.out⟩
set_option maxRecDepth 100000 in
theorem leaf_any (n : Nat) (h1 : 1 ≤ n) (h2 : n ≤ 32) (p : List UInt8) (A : Option Addr) (c : Nat) (w : World) (hp : Rd w A (p.map b8)) (hw : Words w) (hlen : p.length < 1099511627776) :
    Calls Tryz.prog 115 #[.int .i64 n, .slice A p.length c] w fun e w' => e = .returned (.tuple #[dg (Dg.leaf n p), .int .i64 0]) ∧ Below w.heap.size w w' := by
  have hcl := Dg.sum_length n (Dg.leafIn p) h2
  have HC := hid (show ((Dg.leaf n p).map b8).length = 32 by unfold Dg.leaf; simp [hcl])
  have hil : (Dg.leafIn p).length < 576460752303423488 := by simp [Dg.leafIn]; omega
  have HL := hid hil
  clear hcl hil
  go_enter Tryz.func115, Tryz.ntmps115
  go_upto_region 1 with fail
  refine wp_world (Res w) (Res.new w) ?_
  rintro w1 hr
  have HR := hid hr
  clear hr
  go_wp2_with (first
    | (go_at_call 159
       refine (leafIn_any p A c w1 (hp.grown HR.out.bl) hlen).mono ?_
       rintro e w2 h
       obtain ⟨A2, c2, rfl, hb, hrd, hc⟩ := bytes_new h
       have HV := hid (And.intro hb (And.intro hrd hc)); clear hb hrd hc h)
    | (go_at_call 129
       refine (sum1_any n h1 h2 _ (Dg.leafIn p) w2 ⟨_, _, rfl, HV.out.2.1, HV.out.2.2⟩ ((HR.out.words hw).below HV.out.1) HL.out).mono ?_
       rintro e w3 ⟨rfl, hb⟩
       have hb2 : Below w1.heap.size w1 w3 := HV.out.1.trans (hb.mono HV.out.1.size)
       have ht := HR.out.there hb2; have HB := hid hb2; clear hb hb2)
    | ((with_reducible refine st_mid 40 (.tmp 4) (.tmp 11) w.heap.size 0 ((Dg.leaf n p).map b8) 32 HC.out ht (by kernel_rfl) (one_b8 _) ?_ ?_ ?_ ?_ ?_); rfl; rfl; rfl; rfl))
  exact res_end HC.out ht (HR.out.below HB.out) rfl rfl rfl rfl (fun _ h => ⟨rfl, h⟩)
set_option maxRecDepth 100000 in
theorem key_any (n : Nat) (h1 : 1 ≤ n) (h2 : n ≤ 32) (p : List UInt8) (A : Option Addr) (c : Nat) (w : World) (hp : Rd w A (p.map b8)) (hw : Words w) (hlen : p.length < 1099511627776) :
    Calls Tryz.prog 88 #[.int .i64 n, .slice A p.length c] w fun e w' => e = .returned (.tuple #[dg (Dg.key n p), .int .i64 0]) ∧ Below w.heap.size w w' := by
  have hcl := Dg.sum_length n (Dg.keyIn p) h2
  have HC := hid (show ((Dg.key n p).map b8).length = 32 by unfold Dg.key; simp [hcl])
  have hil : (Dg.keyIn p).length < 576460752303423488 := by simp [Dg.keyIn]; omega
  have HL := hid hil
  clear hcl hil
  go_enter Tryz.func88, Tryz.ntmps88
  go_upto_region 1 with fail
  refine wp_world (Res w) (Res.new w) ?_
  rintro w1 hr
  have HR := hid hr
  clear hr
  go_wp2_with (first
    | (go_at_call 138
       refine (keyIn_any p A c w1 (hp.grown HR.out.bl) hlen).mono ?_
       rintro e w2 h
       obtain ⟨A2, c2, rfl, hb, hrd, hc⟩ := bytes_new h
       have HV := hid (And.intro hb (And.intro hrd hc)); clear hb hrd hc h)
    | (go_at_call 129
       refine (sum1_any n h1 h2 _ (Dg.keyIn p) w2 ⟨_, _, rfl, HV.out.2.1, HV.out.2.2⟩ ((HR.out.words hw).below HV.out.1) HL.out).mono ?_
       rintro e w3 ⟨rfl, hb⟩
       have hb2 : Below w1.heap.size w1 w3 := HV.out.1.trans (hb.mono HV.out.1.size)
       have ht := HR.out.there hb2; have HB := hid hb2; clear hb hb2)
    | ((with_reducible refine st_mid 40 (.tmp 4) (.tmp 11) w.heap.size 0 ((Dg.key n p).map b8) 32 HC.out ht (by kernel_rfl) (one_b8 _) ?_ ?_ ?_ ?_ ?_); rfl; rfl; rfl; rfl))
  exact res_end HC.out ht (HR.out.below HB.out) rfl rfl rfl rfl (fun _ h => ⟨rfl, h⟩)
end Go.Proofs.YtpnakfeafekneaaGreatDoor
