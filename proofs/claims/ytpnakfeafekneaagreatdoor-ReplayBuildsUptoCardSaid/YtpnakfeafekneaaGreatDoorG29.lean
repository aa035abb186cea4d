/- Part 29 of this proof: PE. -/
import Derived.Test.YtpnakfeafekneaaGreatDoorG28
set_option linter.unusedSimpArgs false
set_option linter.unusedVariables false
namespace Go.Proofs.YtpnakfeafekneaaGreatDoor
open Go.RowKit
set_option maxRecDepth 100000 in
theorem put_nil [Inhabited LoT] (b n : Nat) (h1 : 1 ≤ n) (h2 : n ≤ 32) (t : Nat) (x : Pr) (xc : List Value) (w : World) (hw : Words w) (hm : MapW w b n) (hx : PairAt w xc x) (hxs : x.key.length ≤ 64 ∧ x.val.length ≤ 256) :
    Calls Tryz.prog 116 #[ptr b, .nilIface, .int .i64 t, dg (Dg.key n x.key), .agg xc.toArray] w fun e w' => ∃ p, e = .returned (nbk p) ∧ Below w.heap.size w w' ∧ Bk w' n (nbk p) [x] := by
  have hkl := Dg.sum_length n (Dg.keyIn x.key) h2
  have hklen : (Dg.key n x.key).length = 32 := hkl
  generalize hK : Dg.key n x.key = K at hklen
  have HK := hid hK
  have HL := hid (show (K.map b8).length = 32 by simp [hklen])
  have hxl := hx.len
  obtain ⟨B1, d1, B2, d2, hxe, hx2⟩ := hx
  have hx : PairAt w xc x := ⟨B1, d1, B2, d2, hxe, hx2⟩
  have HA := hid (And.intro hw (And.intro hm (And.intro hx hxs)))
  have HX := hid (And.intro hxl (show ∀ y ∈ [xc], y.length = 2 from fun y hy => by rw [List.mem_singleton] at hy; subst hy; exact hxl))
  clear hw hm hx hxs hK hkl hx2 hxl
  have hbx := Boxes.new w K xc
  have HBX := hid hbx
  clear hbx
  subst hxe
  go_enter Tryz.func116, Tryz.ntmps116
  go_upto_region 1 with fail
  refine wp_world (fun w' => Boxes w w' K _) HBX.out ?_
  rintro w1 hb1
  have hr1 := hb1.of.whole
  have hr2 := hb1.xc.whole
  have hbs := below_box w1 (.cells #[.slice B1 x.key.length d1, .slice B2 x.val.length d2] 166)
  have hxs2 := HA.out.2.2.1.grown hb1.bl
  have hpour := pour_any b n h1 h2 K hklen (some ⟨w1.heap.size, 0, none⟩) 1 [[.slice B1 x.key.length d1, .slice B2 x.val.length d2]] [x] (w1.alloc (.cells #[.slice B1 x.key.length d1, .slice B2 x.val.length d2] 166)) (HA.out.1.below (gro hb1.bl hbs)) (HA.out.2.1.grown (gro hb1.bl hbs)) (pairs_box hxs2) (PairsAt.one (hxs2.grown hbs)) ⟨by simp, fun p hp => by rw [List.mem_singleton] at hp; subst hp; exact HA.out.2.2.2⟩
  have HB := hid (And.intro hb1.bl (And.intro hpour (And.intro hbs hxs2)))
  clear hb1 HBX hbs hxs2 hpour
  go_wp2_with (first
    | ((with_reducible refine ld_mid 40 (.tmp 8) w.heap.size 0 _ 32 _ HL.out hr1 Tryz.underlying40 rfl (by kernel_rfl) ?_ ?_ ?_ ?_); rfl; rfl; rfl)
    | ((with_reducible refine ld_mid 166 (.tmp 9) (w.heap.size + 1) 0 _ 2 _ HX.out.1 hr2 Tryz.underlying166 rfl (by kernel_rfl) ?_ ?_ ?_ ?_); rfl; rfl; rfl)
    | ((with_reducible refine bs_own 110 166 1 #[(0, .tmp 127)] [[.slice B1 x.key.length d1, .slice B2 x.val.length d2]] 2 (by decide) HX.out.2 rfl (by decide) (by decide) Tryz.underlying110 (by kernel_rfl) ?_ ?_ ?_ ?_); rfl; rfl; rfl)
    | (go_at_call 161
       refine HB.out.2.1.mono ?_
       rintro e w5 ⟨pb, rfl, hb5, hk5⟩
       have HV := hid (And.intro hb5 hk5); clear hb5 hk5))
  go_ret
  exact ⟨pb, rfl, gro (gro HB.out.1 HB.out.2.2.1) HV.out.1, bk_poured HV.out.2 HV.out.1 (pairs_box HB.out.2.2.2) (PairsAt.one (HB.out.2.2.2.grown HB.out.2.2.1)) (Nat.le_refl _) (fun p hp => by rw [List.mem_singleton] at hp; subst hp; exact HK.out) hklen (by simp) (Blk.tyd (Blk.new w1 _ _))⟩
theorem put_bk [Inhabited LoT] (S : Nat → Prop) (b n : Nat) (h1 : 1 ≤ n) (h2 : n ≤ 32) (f t : Nat) (hft : f + t = 2 * n) (v : Value) (m : List Pr) (x : Pr) (xc : List Value) (w : World) (hw : Words w) (hm : MapW w b n) (ha : Bk w n v m) (hx : PairAt w xc x) (hs : Hm.Srt n m) (hbd : Bnd m) (hml : m.length + 1 < 1048576)
    (hpre : ∀ p ∈ m, ∀ i, i < t → Hm.dig n i p = Hm.dig n i x) (hxs : x.key.length ≤ 64 ∧ x.val.length ≤ 256) (hS : ∀ k, w.heap.size ≤ k → S k) :
    Calls Tryz.prog 116 #[ptr b, v, .int .i64 t, dg (Dg.key n x.key), .agg xc.toArray] w fun e w' => ∃ T p, e = .returned (ifp T p) ∧ Below w.heap.size w w' ∧ HtAt S w' n f t (ifp T p) (Hm.ins n x m) := by
  obtain ⟨pa, of, A, c, L, rfl, ha⟩ := ha
  by_cases he : of = Dg.key n x.key
  · subst he
    cases hf : fnd m (pos m x.key) x.key with
    | true => exact (put_bk_found b n h1 h2 t pa m x A c L xc w hw hm ha hx hs hbd hxs hf).mono fun _ _ ⟨p, e, hb, hk⟩ => ⟨_, p, e, hb, hk.ht _ _⟩
    | false => exact (put_bk_new b n h1 h2 t pa m x A c L xc w hw hm ha hx hs hbd hxs hf hml).mono fun _ _ ⟨p, e, hb, hk⟩ => ⟨_, p, e, hb, hk.ht _ _⟩
  · refine put_bk_diff b n h1 h2 f t pa hft m x of A c L xc w hw hm ha hx hs he (fun i hi => ?_) hxs hS
    cases hme : m with
    | nil => exact absurd hme ha.ne
    | cons p r =>
      have hp : p ∈ m := by rw [hme]; simp
      rw [← ha.dig i hp, hpre p hp i hi]; rfl
theorem put_any [Inhabited LoT] (b n : Nat) (h1 : 1 ≤ n) (h2 : n ≤ 32) (x : Pr) (xc : List Value) (hxs : x.key.length ≤ 64 ∧ x.val.length ≤ 256) : ∀ (f t B : Nat) (v : Value) (m : List Pr) (w : World), f + t = 2 * n → B ≤ w.heap.size → Words w → MapW w b n → PairAt w xc x → HtAt (· < B) w n f t v m → Hm.Srt n m → Bnd m → m.length + 1 < 1048576 → (∀ p ∈ m, ∀ i, i < t → Hm.dig n i p = Hm.dig n i x) →
    Calls Tryz.prog 116 #[ptr b, v, .int .i64 t, dg (Dg.key n x.key), .agg xc.toArray] w fun e w' => ∃ T p, e = .returned (ifp T p) ∧ Below w.heap.size w w' ∧ HtAt (fun k => k < B ∨ w.heap.size ≤ k) w' n f t (ifp T p) (Hm.ins n x m) := by
  intro f
  induction f with
  | zero =>
    intro t B v m w hft hB hw hm hx ha hs hbd hml hpre
    exact put_bk _ b n h1 h2 0 t hft v m x xc w hw hm ha hx hs hbd hml hpre hxs (fun k hk => .inr hk)
  | succ f ih =>
    intro t B v m w hft hB hw hm hx ha hs hbd hml hpre
    rcases ha with ⟨_, ha⟩ | ⟨hsg, pb, A, c, z, val, rfl, h3, h4, h5, h6, h7⟩
    · exact put_bk _ b n h1 h2 (f + 1) t hft v m x xc w hw hm ha hx hs hbd hml hpre hxs (fun k hk => .inr hk)
    · have hbr : BrAt (· < B) w n f t pb m A c z val := ⟨hsg, h3, h4, h5, h6, h7⟩
      cases hh : Hm.has n t m (Hm.dig n t x) with
      | false => exact put_br_new B b n h1 h2 f t pb hft m x A c z val xc w hw hm hB hbr hx hs hxs hh
      | true =>
        refine put_br_has B b n h1 h2 f t pb hft m x A c z val xc w hw hm hB hbr hx hs hxs hh ?_
        intro w' hb
        have hd : Hm.dig n t x ∈ Hm.digs n t m := Hm.mem_digs.2 (Hm.has_iff.1 hh)
        have := ih (t + 1) B (val (Hm.dig n t x)) (Hm.child n t (Hm.dig n t x) m) w' (by omega) (Nat.le_trans hB hb.size) (hw.below hb) (hm.grown hb) (hx.grown hb) (HtAt.grown hb (h7 _ hd)) hs.child (hbd.filter _) (by have : (Hm.child n t (Hm.dig n t x) m).length ≤ m.length := List.length_filter_le _ _; omega) (fun p hp i hi => by
          obtain ⟨hp1, hp2⟩ := Hm.mem_child.1 hp
          rcases Nat.lt_or_ge i t with h | h
          · exact hpre p hp1 i h
          · obtain rfl : i = t := by omega
            exact hp2)
        rw [show ((t + 1 : Nat) : Int) = (t : Int) + 1 from rfl] at this
        exact this
end Go.Proofs.YtpnakfeafekneaaGreatDoor
