/- Part 44 of this proof: YP, ZA, ZB, ZC. -/
import Derived.LaidMore
import Derived.OpenShut
import Derived.Stop.Joined
import Derived.Test.YtpnakfeafekneaaGreatDoorG42
import Derived.Test.YtpnakfeafekneaaGreatDoorG43
set_option linter.unusedSimpArgs false
set_option linter.unusedVariables false
/- The law ReplayRoots: the row. -/
namespace Go.Proofs.YtpnakfeafekneaaGreatDoor
open Go.ChangeShapes Go.WideShapes Go.ChangeAt Go.Deep Go.RowKit
theorem own : ownKnob Tryz.prog.godebug = none := by kernel_rfl
theorem laidOut : laidOutB Tryz.prog = true := by kernel_rfl
theorem gWords : Tryz.prog.globalNamed "notary/sha.words" = some 0 := by kernel_rfl
theorem tWords : (Tryz.prog.globals[(0 : Nat)]?).map (·.type) = some 245 := by kernel_rfl
def laidW : List (String × DataW Unit) := [("notary/sha.words", Rows.laid_notary_sha_words)]
theorem datum_eq {H : Type} : (Rows.laid_notary_sha_words : DataW H) = .agg (Sha.kList.map fun k => .lit (.int .u32 (n32 k))) := by kernel_rfl
set_option maxRecDepth 100000 in
theorem of_laid {W : World} (h : laidMetH Tryz.prog laidW W) : Words W := by
  rw [MakeChecks.laidMetH_plain _ _ _ (by kernel_rfl)] at h
  obtain ⟨ps, ⟨g0, t0, cs0, f0, p0, q0, hg0, ht0, hv0, hd0, _, _⟩, _, _⟩ := h
  obtain rfl := Option.some.inj (gWords.symm.trans hg0)
  obtain rfl := Option.some.inj (tWords.symm.trans ht0)
  obtain ⟨xs, m1, rfl, hx1, hlen, hn3, hel⟩ := DataW.trod_array Tryz.underlying245 hd0
  simp only [Prod.mk.injEq] at hx1
  obtain ⟨hx1, -⟩ := hx1
  rw [datum_eq] at hx1
  injection hx1 with hx1
  have c1 : Tryz.prog.cellsOf 198 = 1 := by kernel_rfl
  have c64 : Tryz.prog.cellsOf 245 = 64 := by kernel_rfl
  rw [c64] at hlen
  have key : ∀ i, i < 64 → W.cell? ⟨0, i, none⟩ = some (b32 (Sha.K i)) := by
    intro i hi
    have hE := hel i hi
    rw [c1, Nat.mul_one] at hE
    have hil : i < cs0.toList.length := by omega
    rw [List.drop_eq_getElem_cons hil, List.take_succ_cons, List.take_zero] at hE
    have hxi : xs[i]? = some (xs[i]'(by omega)) := by simp
    rw [hxi] at hE
    obtain ⟨z, hz, hy, -⟩ := DataW.trod_int Tryz.underlying198 hE
    have hd : (Sha.kList.map fun k => (DataW.lit (.int .u32 (n32 k)) : DataW Unit))[i]? = some (DataW.lit (.int .u32 (n32 (Sha.K i)))) := by
      have hl : i < Sha.kList.length := hi
      simp [Sha.K, hl]
    rw [hx1, List.getElem?_map, hxi, Option.map_some, hy] at hd
    simp only [Option.some.injEq, DataW.lit.injEq, Lit.int.injEq, true_and] at hd
    have hc := World.var?_cell hg0 hv0 i
    rw [hc]
    have hci : cs0[i]? = some (.int .u32 z) := by
      simp only [List.cons.injEq, and_true] at hz
      rw [← hz]
      simp
    rw [hci, hd]
  exact ⟨key, World.block_lt_of_cell? W _ (key 0 (by decide))⟩
end Go.Proofs.YtpnakfeafekneaaGreatDoor

/- The law's own: good; TwinEntries as a row of the call's own. -/
namespace Go.Proofs.YtpnakfeafekneaaGreatDoor
open Go.RowKit
set_option maxHeartbeats 2000000 in
set_option maxRecDepth 100000 in
theorem twinsO_any (es : List Ent) (A : Option Addr) (c : Nat) (L : List (List Value)) (w : World) (hA : Rd w A L.flatten) (hE : EntsAt w L es) (hn : es.length < 1048576) (hb : ∀ e ∈ es, e.key.length ≤ 140737488355328 ∧ e.val.length ≤ 140737488355328) :
    Calls Tryz.prog 10 #[.slice A es.length c] w fun e w' => ∃ Ar cr L', e = .returned (.slice Ar es.length cr) ∧ Below w.heap.size w w' ∧ w'.ownsRow w.heap.size 36 3 (.slice Ar es.length cr) es.length L'.flatten ∧ EntsTy w' L' es := by
  have HA := hid (And.intro hA (And.intro hE hb))
  clear hA hE hb
  go_enter Tryz.func10, Tryz.ntmps10
  go_wp2_with fail
  go_loopg [3, 8] es.length (fun g s3 i wr => ∃ (j : Nat) (Ar : Option Addr) (cr : Nat) (L' : List (List Value)), j + g = es.length ∧ i = .int .i64 j ∧ s3 = .slice Ar j cr ∧ wr.ownsRow w.heap.size 36 3 (.slice Ar j cr) j L'.flatten ∧ EntsTy wr L' (es.take j) ∧ Below w.heap.size w wr)
  case atStart => exact ⟨0, none, 0, [], by omega, rfl, rfl, World.ownsRow_nil _ _ _ _, ⟨rfl, fun i x p h => by simp at h⟩, Below.refl _ _⟩
  case round =>
    obtain ⟨j, Ar, cr, L', hj, rfl, rfl, ho, he, hbl⟩ := hrel
    have HR := hid (And.intro ho (And.intro he hbl))
    clear ho he hbl
    by_cases hlt : j < es.length
    · obtain ⟨kind, key, val, hjj⟩ : ∃ kind key val, es[j]? = some ⟨kind, key, val⟩ := ⟨es[j].kind, es[j].key, es[j].val, by simp [hlt]⟩
      have hsub : es.take (j + 1) = es.take j ++ [⟨kind, key, val⟩] := by rw [List.take_succ_eq_append_getElem hlt, (List.getElem?_eq_some_iff.1 hjj).2]
      have hL := HA.out.2.1.len
      have hjl : j < L.length := by omega
      obtain ⟨g, o, rfl, hr⟩ := HA.out.1 (by
        intro e
        have := flatten_len 3 _ HA.out.2.1.three
        rw [e] at this
        simp at this; omega)
      have hp := range_part hr HA.out.2.1.three j hjl
      have hbk := HA.out.2.2 _ (List.mem_of_getElem? hjj)
      obtain ⟨A1, c1', A2, c2', hx, hr1, hr2, hc1, hc2⟩ := HA.out.2.1.at_ j L[j] ⟨kind, key, val⟩ (by simp [hjl]) hjj
      rw [hx] at hp
      simp only [] at hp
      have hlb := range_lt hp (by simp)
      have hp2 := range_below hp HR.out.2.2 hlb
      have hea : EntAt w [b8 kind, .slice A1 key.length c1', .slice A2 val.length c2'] ⟨kind, key, val⟩ := ⟨A1, c1', A2, c2', rfl, hr1, hr2, hc1, hc2⟩
      have hoc : ∀ v ∈ [b8 kind, .slice A1 key.length c1', .slice A2 val.length c2'], v.oneCell' = true := fun v hv => by
        simp only [List.mem_cons, List.not_mem_nil, or_false] at hv
        rcases hv with rfl | rfl | rfl <;> rfl
      have hp9 := (Blk.new wr 36 [b8 kind, .slice A1 key.length c1', .slice A2 val.length c2']).whole
      have HB := hid (below_box wr (.cells [b8 kind, .slice A1 key.length c1', .slice A2 val.length c2'].toArray 36))
      have HX := hid (And.intro hsub (And.intro hea hbk))
      have h63 : j + 1 ≤ maxLen := by simp only [maxLen]; omega
      have hby : (j + 1) * 56 ≤ 140737488355328 := by omega
      clear hr hr1 hr2 hx hp hc1 hc2 hL hlb hsub hea hbk
      go_wp2_with (first
        | ((with_reducible refine ld_mid 36 (.tmp 10) g (o + j * 3) _ 3 _ rfl hp2 Tryz.underlying36 rfl (by kernel_rfl) ?_ ?_ ?_ ?_); rfl; rfl; rfl)
        | ((with_reducible refine st_new 36 (.tmp 5) (.tmp 11) _ _ [b8 kind, .slice A1 key.length c1', .slice A2 val.length c2'] 3 rfl ?_ (by kernel_rfl) hoc ?_ ?_ ?_ ?_ ?_); rfl; rfl; rfl; rfl; rfl)
        | ((with_reducible refine ld_mid 36 (.tmp 5) wr.heap.size 0 _ 3 _ rfl hp9 Tryz.underlying36 rfl (by kernel_rfl) ?_ ?_ ?_ ?_); rfl; rfl; rfl)
        | (go_at_call 41
           refine (twinE_any _ ⟨kind, key, val⟩ _ (HX.out.2.1.grown (gro HR.out.2.2 HB.out)) HX.out.2.2.1 HX.out.2.2.2).mono ?_
           rintro e w7 ⟨y, rfl, hb7, hy⟩
           have hyl : ∀ x ∈ [y], x.length = 3 := (fun x hx => by rw [List.mem_singleton] at hx; subst hx; exact hy.len)
           have hyl2 : [y].flatten.length = 1 * 3 := (by simpa using hy.len)
           have hyo : ∀ v ∈ [y].flatten, v.oneCell' = true := (fun v hv => hy.oc v (by simpa using hv))
           have hb8 := gro (gro HB.out hb7) (below_box w7 (.cells [y].flatten.toArray 36))
           have own8 := own_grown HR.out.1 hb8
           have hr8 := Rd.of _ (Blk.new w7 36 [y].flatten).whole
           have hbs8 := (gro HR.out.2.2 hb8).size
           have H8 := hid (And.intro hb8 (And.intro own8 (And.intro hr8 (hy.stay (Stay.of_grown (below_box w7 (.cells [y].flatten.toArray 36)))))))
           clear hb7 hy hb8 own8 hr8)
        | ((with_reducible refine bs_own 22 36 1 #[(0, .tmp 14)] [y] 3 (by decide) hyl rfl (by decide) (by decide) Tryz.underlying22 (by kernel_rfl) ?_ ?_ ?_ ?_); rfl; rfl; rfl)
        | ((with_reducible refine ap_own (.tmp 12) (.tmp 15) 22 Tryz.underlying22 info_entry rfl (by decide) H8.out.2.1 1 1 hyl2 H8.out.2.2.1 hyo h63 hby hbs8 ?_ ?_ ?_ ?_ ?_); rfl; rfl; rfl; rfl
           intro v9 w9 hn1 hn2 hn3 hn4
           obtain ⟨A9, c9, rfl, hr9, hc9⟩ := rd_own hn1
           have p9 := (But.append H8.out.2.1 hn2).pure (by decide)
           have hb9 := grownBy_below H8.out.2.1 (gro HR.out.2.2 H8.out.1) hbs8 hn2
           have he9 := ((HR.out.2.1.grown H8.out.1).append (EntsTy.one H8.out.2.2.2)).stay p9
           have H9 := hid (And.intro hn1 (And.intro he9 hb9))
           clear hn1 hn2 hn3 hn4 hr9 hc9 p9 hb9 he9))
      go_roundg (gk - 1)
      case measure => omega
      case rel =>
        refine ⟨j + 1, A9, c9, L' ++ [y], by omega, by go_num, rfl, ?_, ?_, H9.out.2.2⟩
        · rw [List.flatten_append]; exact H9.out.1
        · rw [HX.out.1]; exact H9.out.2.1
    · obtain rfl : j = es.length := by omega
      have hel := HR.out.2.1
      rw [List.take_length] at hel
      have HE9 := hid hel
      have HO9 := hid HR.out.1
      clear hel
      go_wp2_with fail
      go_ret
      exact ⟨Ar, cr, L', rfl, HR.out.2.2, HO9.out, HE9.out⟩
/-- The entries that may be appended. -/
def En.good (es : List Ent) : List Ent := es.filter fun e => decide (En.check e = 0)
theorem En.good_take (es : List Ent) (j : Nat) (hj : j < es.length) : En.good (es.take (j + 1)) = if En.check es[j] = 0 then En.good (es.take j) ++ [es[j]] else En.good (es.take j) := by
  unfold En.good
  rw [List.take_succ_eq_append_getElem hj, List.filter_append]
  by_cases h : En.check es[j] = 0
  · simp [h]
  · simp [h]
theorem En.good_le (es : List Ent) : (En.good es).length ≤ es.length := List.length_filter_le _ _
theorem ents_append {w : World} {L1 L2 : List (List Value)} {m1 m2 : List Ent} (h1 : EntsAt w L1 m1) (h2 : EntsAt w L2 m2) : EntsAt w (L1 ++ L2) (m1 ++ m2) := by
  refine ⟨by simp [h1.len, h2.len], fun i x p hx hp => ?_⟩
  have hl := h1.len
  by_cases hi : i < L1.length
  · rw [List.getElem?_append_left hi] at hx
    rw [List.getElem?_append_left (by omega)] at hp
    exact h1.at_ i x p hx hp
  · rw [List.getElem?_append_right (by omega)] at hx
    rw [List.getElem?_append_right (by omega)] at hp
    exact h2.at_ _ x p hx (by rw [hl]; exact hp)
set_option maxHeartbeats 2000000 in
set_option maxRecDepth 100000 in
theorem good_any (es : List Ent) (A : Option Addr) (m c : Nat) (L : List (List Value)) (w : World) (hm : es.length = m) (hA : Rd w A L.flatten) (hE : EntsAt w L es) (hn : m < 1048576) :
    Calls Tryz.prog 13 #[.slice A m c] w fun e w' => ∃ Ar k cr L', e = .returned (.slice Ar k cr) ∧ Below w.heap.size w w' ∧ (En.good es).length = k ∧ k ≤ cr ∧ Rd w' Ar L'.flatten ∧ EntsAt w L' (En.good es) := by
  have HA := hid (And.intro hA (And.intro hE hm))
  clear hA hE hm
  go_enter Tryz.func13, Tryz.ntmps13
  go_wp2_with fail
  go_loopg [3, 8] m (fun g s3 i wr => ∃ (j : Nat) (Ar : Option Addr) (k cr : Nat) (L' : List (List Value)), j + g = m ∧ k ≤ j ∧ i = .int .i64 j ∧ s3 = .slice Ar k cr ∧ wr.ownsRow w.heap.size 36 3 (.slice Ar k cr) k L'.flatten ∧ EntsAt w L' (En.good (es.take j)) ∧ (En.good (es.take j)).length = k ∧ Below w.heap.size w wr)
  case atStart => exact ⟨0, none, 0, 0, [], by omega, Nat.le_refl _, rfl, rfl, World.ownsRow_nil _ _ _ _, ⟨rfl, fun i x p h => by simp at h⟩, rfl, Below.refl _ _⟩
  case round =>
    obtain ⟨j, Ar, k, cr, L', hj, hkj, rfl, rfl, ho, he, hkl, hbl⟩ := hrel
    have HR := hid (And.intro ho (And.intro he (And.intro hbl hkl)))
    clear ho he hbl hkl
    by_cases hlt : j < m
    · have hje : j < es.length := by have := HA.out.2.2; omega
      have hgt := En.good_take es j hje
      obtain ⟨kind, key, val, hjj⟩ : ∃ kind key val, es[j]? = some ⟨kind, key, val⟩ := ⟨es[j].kind, es[j].key, es[j].val, by simp [hje]⟩
      rw [(List.getElem?_eq_some_iff.1 hjj).2] at hgt
      have hL := HA.out.2.1.len
      have hjl : j < L.length := by omega
      obtain ⟨g, o, rfl, hr⟩ := HA.out.1 (by
        intro e
        have := flatten_len 3 _ HA.out.2.1.three
        rw [e] at this
        simp at this; omega)
      have hp := range_part hr HA.out.2.1.three j hjl
      have hat := HA.out.2.1.at_ j L[j] ⟨kind, key, val⟩ (by simp [hjl]) hjj
      obtain ⟨A1, c1', A2, c2', hx, hr1, hr2, hc1, hc2⟩ := hat
      rw [hx] at hp
      simp only [] at hp
      have hlb := range_lt hp (by simp)
      have hp2 := range_below hp HR.out.2.2.1 hlb
      have hea : EntAt w [b8 kind, .slice A1 key.length c1', .slice A2 val.length c2'] ⟨kind, key, val⟩ := ⟨A1, c1', A2, c2', rfl, hr1, hr2, hc1, hc2⟩
      obtain ⟨y, hy⟩ : ∃ y, y = [b8 kind, .slice A1 key.length c1', .slice A2 val.length c2'] := ⟨_, rfl⟩
      have hoc : ∀ v ∈ y, v.oneCell' = true := fun v hv => by
        rw [hy] at hv
        simp only [List.mem_cons, List.not_mem_nil, or_false] at hv
        rcases hv with rfl | rfl | rfl <;> rfl
      have hyl : y.length = 3 := by rw [hy]; rfl
      have hcc : ∀ w', Calls Tryz.prog 43 #[.agg y.toArray] w' fun e w'' => e = .returned (.int .i64 (En.check ⟨kind, key, val⟩)) ∧ Below w'.heap.size w' w'' := fun w' => by rw [hy]; exact doccheck_e kind A1 A2 key.length c1' val.length c2' w'
      rw [← hy] at hp2 hea
      obtain ⟨z, hz⟩ : ∃ z, z = En.check ⟨kind, key, val⟩ := ⟨_, rfl⟩
      rw [← hz] at hcc hgt
      have hp9 := (Blk.new wr 36 y).whole
      have hb1 := below_box wr (.cells y.toArray 36)
      have hsl : ∀ x ∈ [y], x.length = 3 := fun x hx => by rw [List.mem_singleton] at hx; subst hx; exact hyl
      have hsl2 : [y].flatten.length = 1 * 3 := by simp [hyl]
      have hso : ∀ v ∈ [y].flatten, v.oneCell' = true := fun v hv => hoc v (by simpa using hv)
      have h63 : k + 1 ≤ maxLen := by simp only [maxLen]; omega
      have hby : (k + 1) * 56 ≤ 140737488355328 := by omega
      have HX := hid (And.intro hea (And.intro hcc (And.intro hgt (And.intro hb1 hp9))))
      clear hr hr1 hr2 hx hp hc1 hc2 hL hlb hea hcc hgt hb1 hy hz
      by_cases hz0 : z = 0
      · subst hz0
        go_wp2_with (first
          | ((with_reducible refine ld_mid 36 (.tmp 10) g (o + j * 3) y 3 _ hyl hp2 Tryz.underlying36 rfl (by kernel_rfl) ?_ ?_ ?_ ?_); rfl; rfl; rfl)
          | ((with_reducible refine st_new 36 (.tmp 5) (.tmp 11) _ _ y 3 hyl ?_ (by kernel_rfl) hoc ?_ ?_ ?_ ?_ ?_); rfl; rfl; rfl; rfl; rfl)
          | (go_at_call 43
             refine (HX.out.2.1 _).mono ?_
             rintro e7 w7 ⟨rfl, hb7⟩
             have hp7 := range_grown HX.out.2.2.2.2 hb7
             have hb8 := gro (gro HX.out.2.2.2.1 hb7) (below_box w7 (.cells [y].flatten.toArray 36))
             have own8 := own_grown HR.out.1 hb8
             have hr8 := Rd.of _ (Blk.new w7 36 [y].flatten).whole
             have hbs8 := (gro HR.out.2.2.1 hb8).size
             have H8 := hid (And.intro hb8 (And.intro own8 hr8))
             clear hb7 hb8 own8 hr8)
          | ((with_reducible refine ld_mid 36 (.tmp 5) wr.heap.size 0 y 3 _ hyl hp7 Tryz.underlying36 rfl (by kernel_rfl) ?_ ?_ ?_ ?_); rfl; rfl; rfl)
          | ((with_reducible refine ld_mid 36 (.tmp 5) wr.heap.size 0 y 3 _ hyl hp9 Tryz.underlying36 rfl (by kernel_rfl) ?_ ?_ ?_ ?_); rfl; rfl; rfl)
          | ((with_reducible refine bs_own 22 36 1 #[(0, .tmp 16)] [y] 3 (by decide) hsl rfl (by decide) (by decide) Tryz.underlying22 (by kernel_rfl) ?_ ?_ ?_ ?_); rfl; rfl; rfl)
          | ((with_reducible refine ap_own (.tmp 15) (.tmp 17) 22 Tryz.underlying22 info_entry rfl (by decide) H8.out.2.1 1 1 hsl2 H8.out.2.2 hso h63 hby hbs8 ?_ ?_ ?_ ?_ ?_); rfl; rfl; rfl; rfl
             intro v9 w9 hn1 hn2 hn3 hn4
             obtain ⟨A9, c9, rfl, hr9, hc9⟩ := rd_own hn1
             have H9 := hid (And.intro hn1 (grownBy_below H8.out.2.1 (gro HR.out.2.2.1 H8.out.1) hbs8 hn2))
             clear hn1 hn2 hn3 hn4 hr9 hc9))
        go_roundg (gk - 1)
        case measure => omega
        case rel =>
          have hg := HX.out.2.2.1
          simp only [if_true] at hg
          exact ⟨j + 1, A9, k + 1, c9, L' ++ [y], by omega, by omega, by go_num, rfl, by rw [List.flatten_append]; exact H9.out.1, by rw [hg]; exact ents_append HR.out.2.1 (ents_one HX.out.1), by rw [hg, List.length_append, HR.out.2.2.2]; rfl, H9.out.2⟩
      · have hzi : ¬ (z : Int) = 0 := by omega
        go_wp2_with (first
          | ((with_reducible refine ld_mid 36 (.tmp 10) g (o + j * 3) y 3 _ hyl hp2 Tryz.underlying36 rfl (by kernel_rfl) ?_ ?_ ?_ ?_); rfl; rfl; rfl)
          | ((with_reducible refine st_new 36 (.tmp 5) (.tmp 11) _ _ y 3 hyl ?_ (by kernel_rfl) hoc ?_ ?_ ?_ ?_ ?_); rfl; rfl; rfl; rfl; rfl)
          | ((with_reducible refine ld_mid 36 (.tmp 5) wr.heap.size 0 y 3 _ hyl hp9 Tryz.underlying36 rfl (by kernel_rfl) ?_ ?_ ?_ ?_); rfl; rfl; rfl)
          | (go_at_call 43
             refine (HX.out.2.1 _).mono ?_
             rintro e7 w7 ⟨rfl, hb7⟩
             have H7 := hid (gro HX.out.2.2.2.1 hb7)
             clear hb7))
        go_roundg (gk - 1)
        case measure => omega
        case rel =>
          have hg := HX.out.2.2.1
          rw [if_neg hz0] at hg
          exact ⟨j + 1, Ar, k, cr, L', by omega, by omega, by go_num, rfl, own_grown HR.out.1 H7.out, by rw [hg]; exact HR.out.2.1, by rw [hg]; exact HR.out.2.2.2, gro HR.out.2.2.1 H7.out⟩
    · obtain rfl : j = m := by omega
      have hel := HR.out.2.1
      have hkl := HR.out.2.2.2
      rw [List.take_of_length_le (by have := HA.out.2.2; omega)] at hel hkl
      obtain ⟨hr9, hc9⟩ := own_rd HR.out.1
      have HE9 := hid (And.intro hr9 (And.intro hel (And.intro hkl hc9)))
      clear hr9 hel hkl hc9
      go_wp2_with fail
      go_ret
      exact ⟨Ar, k, cr, L', rfl, HR.out.2.2.1, HE9.out.2.2.1, HE9.out.2.2.2, HE9.out.1, HE9.out.2.1⟩
end Go.Proofs.YtpnakfeafekneaaGreatDoor

/- A ledger whose keys are all deleted has the empty map. No program in sight. -/
namespace Go.Proofs.YtpnakfeafekneaaGreatDoor
open Go.RowKit
def En.dels (es : List Ent) : List Ent := es.map fun e => ⟨2, e.key, []⟩
theorem En.dels_len (es : List Ent) : (En.dels es).length = es.length := by simp [En.dels]
theorem En.dels_take (es : List Ent) (j : Nat) (hj : j < es.length) : En.dels (es.take (j + 1)) = En.dels (es.take j) ++ [⟨2, es[j].key, []⟩] := by
  unfold En.dels
  rw [List.take_succ_eq_append_getElem hj, List.map_append]
  rfl
theorem En.good_ok {es : List Ent} {e : Ent} (h : e ∈ En.good es) : En.check e = 0 := by
  unfold En.good at h
  have := (List.mem_filter.1 h).2
  exact of_decide_eq_true this
theorem En.chk_zero {k : UInt8} {a b : Nat} (h : En.chk k a b = 0) : a ≤ 64 ∧ b ≤ 256 := by
  unfold En.chk at h
  split at h
  · cases h
  · omega
theorem En.good_key {es : List Ent} {e : Ent} (h : e ∈ En.good es) : e.key.length ≤ 64 ∧ e.val.length ≤ 256 := En.chk_zero (En.good_ok h)
theorem En.all_of {es : List Ent} (h : ∀ a ∈ es, En.check a = 0) : En.all es = 0 := by
  have : ∀ (es : List Ent), (∀ a ∈ es, En.check a = 0) → es.foldl (fun e a => En.least e (En.check a)) 0 = 0 := by
    intro es
    induction es with
    | nil => intro _; rfl
    | cons a es ih =>
      intro h
      rw [List.foldl_cons, h a (by simp)]
      exact ih fun b hb => h b (by simp [hb])
  exact this es h
theorem En.gone_all (es : List Ent) : En.all (En.good es ++ En.dels (En.good es)) = 0 := by
  refine En.all_of fun a ha => ?_
  rcases List.mem_append.1 ha with h | h
  · exact En.good_ok h
  · unfold En.dels at h
    obtain ⟨e, he, rfl⟩ := List.mem_map.1 h
    have := En.good_key he
    show En.chk 2 e.key.length 0 = 0
    unfold En.chk
    rw [if_neg (by omega), if_neg (by simp)]
theorem Sn.map_key (n : Nat) (es : List Ent) : ∀ p ∈ Sn.map n es, ∃ e ∈ es, e.key = p.key := by
  have : ∀ (es : List Ent) (m : List Pr) (K : List UInt8 → Prop), (∀ p ∈ m, K p.key) → (∀ e ∈ es, K e.key) → ∀ p ∈ es.foldl (Sn.step n) m, K p.key := by
    intro es
    induction es with
    | nil => intro m K h _; exact h
    | cons e es ih =>
      intro m K h h2
      refine ih _ K ?_ (fun b hb => h2 b (by simp [hb]))
      intro p hp
      unfold Sn.step at hp
      split at hp
      · rcases Hm.mem_ins hp with rfl | hp
        · exact h2 e (by simp)
        · exact h p hp
      · unfold Hm.del at hp
        exact h p (List.mem_filter.1 hp).1
  intro p hp
  exact this es [] (fun k => ∃ e ∈ es, e.key = k) (fun p h => by cases h) (fun e he => ⟨e, he, rfl⟩) p hp
theorem Sn.dels_fold (n : Nat) (es : List Ent) : ∀ (m : List Pr) (p : Pr), p ∈ (En.dels es).foldl (Sn.step n) m → p ∈ m ∧ ∀ e ∈ es, e.key ≠ p.key := by
  induction es with
  | nil => intro m p h; exact ⟨h, fun e he => by cases he⟩
  | cons e es ih =>
    intro m p h
    have h' : p ∈ (En.dels es).foldl (Sn.step n) (Sn.step n m ⟨2, e.key, []⟩) := h
    obtain ⟨h1, h2⟩ := ih _ _ h'
    have h3 : p ∈ Hm.del e.key m := h1
    unfold Hm.del at h3
    obtain ⟨h4, h5⟩ := List.mem_filter.1 h3
    refine ⟨h4, fun a ha => ?_⟩
    rcases List.mem_cons.1 ha with rfl | ha
    · intro he
      rw [he] at h5
      simp at h5
    · exact h2 a ha
theorem Sn.gone_map (n : Nat) (es : List Ent) : Sn.map n (es ++ En.dels es) = [] := by
  rcases h : Sn.map n (es ++ En.dels es) with _ | ⟨p, ps⟩
  · rfl
  · have hp : p ∈ Sn.map n (es ++ En.dels es) := by rw [h]; simp
    have hp2 : p ∈ (En.dels es).foldl (Sn.step n) (Sn.map n es) := by
      unfold Sn.map at hp ⊢
      rw [List.foldl_append] at hp
      exact hp
    obtain ⟨h1, h2⟩ := Sn.dels_fold n es _ _ hp2
    obtain ⟨e, he, hk⟩ := Sn.map_key n es p h1
    exact absurd hk (h2 e he)
theorem Sn.gone_root (n : Nat) (es : List Ent) : (Sn.root n (es ++ En.dels es)).map = Dg.noMap n := by
  unfold Sn.root Hm.root
  rw [Sn.gone_map]
  rfl
end Go.Proofs.YtpnakfeafekneaaGreatDoor

/- The law ReplayGone: its walk. -/
namespace Go.Proofs.YtpnakfeafekneaaGreatDoor
open Go.RowKit
theorem del_build_run (A1 : Option Addr) (n1 c1 : Nat) (w : World) : (Instr.build 36 #[(0, .int .u8 2), (1, .slice A1 n1 c1)]).run Tryz.prog w = .ok (.agg [b8 2, .slice A1 n1 c1, .slice none 0 0].toArray) w :=
  run_build (P := Tryz.prog) w _ #[(0, .int .u8 2), (1, .slice A1 n1 c1)] _ (by kernel_rfl)
theorem twinsON_any (es : List Ent) (A : Option Addr) (m c : Nat) (L : List (List Value)) (w : World) (hm : es.length = m) (hA : Rd w A L.flatten) (hE : EntsAt w L es) (hn : m < 1048576) (hb : ∀ e ∈ es, e.key.length ≤ 140737488355328 ∧ e.val.length ≤ 140737488355328) :
    Calls Tryz.prog 10 #[.slice A m c] w fun e w' => ∃ Ar cr L', e = .returned (.slice Ar m cr) ∧ Below w.heap.size w w' ∧ w'.ownsRow w.heap.size 36 3 (.slice Ar m cr) m L'.flatten ∧ EntsTy w' L' es := by
  subst hm; exact twinsO_any es A c L w hA hE hn hb
theorem run_neq_dig (d : List UInt8) (h : d.length = 32) (w : World) : (binOp .neq 40 (dg d) (dg d)).run Tryz.prog w = .ok (.bool false) w := by
  have := equalIn_bytes (P := Tryz.prog) Tryz.underlying40 Tryz.underlying5 (by kernel_rfl) d h 9998 w
  unfold dg
  rw [run_neq_struct, this]; rfl
theorem rt_map_range {w : World} {g o : Nat} {r : Rt} (h : RtOk r) (hr : w.rangeAt g o (rtCells r)) : w.rangeAt g (o + 33) (r.map.map b8) := by
  have hr' : w.rangeAt g o ((.int .u64 r.size :: r.log.map b8) ++ r.map.map b8) := hr
  have := (range_halves hr').2
  rw [show (Value.int .u64 r.size :: r.log.map b8).length = 33 from by simp [h.1]] at this
  exact this
theorem wrap_succ (q : Nat) (h : q < 1048576) : wrap64 ((q : Int) + 1) = ((q + 1 : Nat) : Int) := by unfold wrap64; omega
theorem gone_short (x : Int) (es : List Ent) (A : Option Addr) (m c : Nat) (w : World) (hw : Words w) (h200 : 200 < m) :
    Calls Tryz.prog 4 #[.int .i64 x, .slice A m c] w fun e w' => e = .returned (.bool true) ∧ Below w.heap.size w w' := by
  have hi : (200 : Int) < (m : Int) := by omega
  go_enter Tryz.func4, Tryz.ntmps4
  go_wp2_with (go_at_call 8
               refine (awake_any w hw).mono ?_
               rintro e w1 ⟨rfl, hb1⟩
               have H1 := hid hb1
               clear hb1)
  go_ret
  exact ⟨rfl, H1.out⟩
theorem gone_width (x : Int) (es : List Ent) (A : Option Addr) (m c : Nat) (L : List (List Value)) (w : World) (hw : Words w) (hm : es.length = m) (hA : Rd w A L.flatten) (hE : EntsAt w L es) (h200 : ¬ 200 < m) (hx : ¬ (1 ≤ x ∧ x ≤ 32)) :
    Calls Tryz.prog 4 #[.int .i64 x, .slice A m c] w fun e w' => e = .returned (.bool true) ∧ Below w.heap.size w w' := by
  have hi : ¬ (200 : Int) < (m : Int) := by omega
  have HA := hid (And.intro hA (And.intro hE (And.intro hm (And.intro hw hx))))
  clear hA hE hm hw hx
  go_enter Tryz.func4, Tryz.ntmps4
  go_wp2_with (first
    | (go_at_call 14
       refine (rwidth_raw x w2).mono ?_
       rintro e w3 ⟨rfl, rfl⟩
       rw [if_neg HA.out.2.2.2.2])
    | (go_at_call 13
       refine (good_any es A m c L w1 HA.out.2.2.1 (HA.out.1.grown H1.out) (HA.out.2.1.grown H1.out) (by omega)).mono ?_
       rintro e w2 ⟨A2, k, c2, L2, rfl, hb2, hk2, hkc, hr2, he2⟩
       have H2 := hid (And.intro (gro H1.out hb2) (And.intro hk2 (And.intro hkc (And.intro hr2 he2))))
       clear hb2 hk2 hkc hr2 he2)
    | (go_at_call 8
       refine (awake_any w HA.out.2.2.2.1).mono ?_
       rintro e w1 ⟨rfl, hb1⟩
       have H1 := hid hb1
       clear hb1))
  go_ret
  exact ⟨rfl, H2.out.1⟩
attribute [-go_sem] Instr.build Instr.buildSlice in
set_option maxHeartbeats 4000000 in
set_option maxRecDepth 100000 in
theorem gone_full (n : Nat) (h1 : 1 ≤ n) (h2 : n ≤ 32) (es : List Ent) (A : Option Addr) (m c : Nat) (L : List (List Value)) (w : World) (hw : Words w) (hm : es.length = m) (hA : Rd w A L.flatten) (hE : EntsAt w L es) (h200 : ¬ 200 < m) :
    Calls Tryz.prog 4 #[.int .i64 n, .slice A m c] w fun e w' => e = .returned (.bool true) ∧ Below w.heap.size w w' := by
  have hi : ¬ (200 : Int) < (m : Int) := by omega
  have HA := hid (And.intro hA (And.intro hE (And.intro hm (And.intro hw (And.intro h1 h2)))))
  clear hA hE hm hw h1 h2
  go_enter Tryz.func4, Tryz.ntmps4
  go_wp2_with (first
    | (go_at_call 14
       refine (rwidth_raw n w2).mono ?_
       rintro e w3 ⟨rfl, rfl⟩
       rw [if_pos (show 1 ≤ (n : Int) ∧ (n : Int) ≤ 32 by have := HA.out.2.2.2.2; omega)])
    | (go_at_call 10
       refine (twinsON_any gs A2 k c2 L2 w2 H2.out.2.1 H2.out.2.2.2.1 H2.out.2.2.2.2.1 (by omega) H2.out.2.2.2.2.2).mono ?_
       rintro e w4 ⟨A4, c4, L4, rfl, hb4, ho4, he4⟩
       have H4 := hid (And.intro hb4 (And.intro ho4 he4))
       clear hb4 ho4 he4)
    | (go_at_call 13
       refine (good_any es A m c L w1 HA.out.2.2.1 (HA.out.1.grown H1.out) (HA.out.2.1.grown H1.out) (by omega)).mono ?_
       rintro e w2 ⟨A2, k, c2, L2, rfl, hb2, hk2, hkc, hr2, he2⟩
       have hle := En.good_le es
       have hk200 : k ≤ 200 := (by have := HA.out.2.2.1; omega)
       have hlen : ∀ e ∈ En.good es, e.key.length ≤ 140737488355328 ∧ e.val.length ≤ 140737488355328 := (fun e he => by have := En.good_key he; omega)
       have hk64 : ∀ e ∈ En.good es, e.key.length ≤ 64 := (fun e he => (En.good_key he).1)
       have hall := En.gone_all es
       obtain ⟨gs, hgs⟩ : ∃ gs, gs = En.good es := ⟨_, rfl⟩
       rw [← hgs] at hk2 he2 hlen hk64 hall
       have H2 := hid (And.intro (gro H1.out hb2) (And.intro hk2 (And.intro hkc (And.intro hr2 (And.intro (he2.grown hb2) hlen)))))
       have HG := hid (And.intro hk64 hall)
       clear hb2 hk2 hkc hr2 he2 hle hlen hk64 hall hgs)
    | (go_at_call 8
       refine (awake_any w HA.out.2.2.2.1).mono ?_
       rintro e w1 ⟨rfl, hb1⟩
       have H1 := hid hb1
       clear hb1))
  go_loopg [5, 25] k (fun g s5 i wr => ∃ (j : Nat) (Ar : Option Addr) (cr : Nat) (L' : List (List Value)), j + g = k ∧ i = .int .i64 j ∧ s5 = .slice Ar (k + j) cr ∧ wr.ownsRow w2.heap.size 36 3 (.slice Ar (k + j) cr) (k + j) L'.flatten ∧ EntsTy wr L' (gs ++ En.dels (gs.take j)) ∧ Below w2.heap.size w2 wr)
  case atStart => exact ⟨0, A4, c4, L4, by omega, rfl, rfl, H4.out.2.1, by simpa [En.dels] using H4.out.2.2, H4.out.1⟩
  case round =>
    obtain ⟨j, Ar, cr, L', hj, rfl, rfl, ho, he, hbl⟩ := hrel
    have HR := hid (And.intro ho (And.intro he hbl))
    clear ho he hbl
    by_cases hlt : j < k
    · have hjg : j < gs.length := by have := H2.out.2.1; omega
      obtain ⟨kind, key, val, hjj⟩ : ∃ kind key val, gs[j]? = some ⟨kind, key, val⟩ := ⟨gs[j].kind, gs[j].key, gs[j].val, by simp [hjg]⟩
      have hsub : En.dels (gs.take (j + 1)) = En.dels (gs.take j) ++ [⟨2, key, []⟩] := by rw [En.dels_take gs j hjg, (List.getElem?_eq_some_iff.1 hjj).2]
      have hL := H2.out.2.2.2.2.1.len
      have hjl : j < L2.length := by omega
      obtain ⟨g, o, rfl, hr⟩ := H2.out.2.2.2.1 (by
        intro e
        have := flatten_len 3 _ H2.out.2.2.2.2.1.three
        rw [e] at this
        simp at this; omega)
      have hp := range_part hr H2.out.2.2.2.2.1.three j hjl
      have hbk := H2.out.2.2.2.2.2 _ (List.mem_of_getElem? hjj)
      obtain ⟨A1, c1', A3, c3', hx, hr1, hr3, hc1, hc3⟩ := H2.out.2.2.2.2.1.at_ j L2[j] ⟨kind, key, val⟩ (by simp [hjl]) hjj
      rw [hx] at hp
      simp only [] at hp
      have hlb := range_lt hp (by simp)
      have hp2 := range_below hp HR.out.2.2 hlb
      have hoc : ∀ v ∈ [b8 kind, .slice A1 key.length c1', .slice A3 val.length c3'], v.oneCell' = true := fun v hv => by
        simp only [List.mem_cons, List.not_mem_nil, or_false] at hv
        rcases hv with rfl | rfl | rfl <;> rfl
      have hp9 : (wr.alloc (.cells [b8 kind, .slice A1 key.length c1', .slice A3 val.length c3'].toArray 36)).cell? ⟨wr.heap.size, 1, none⟩ = some (.slice A1 key.length c1') := by rw [(Blk.new wr 36 [b8 kind, .slice A1 key.length c1', .slice A3 val.length c3']).cell]; rfl
      have HB := hid (below_box wr (.cells [b8 kind, .slice A1 key.length c1', .slice A3 val.length c3'].toArray 36))
      obtain ⟨kl, hkl⟩ : ∃ kl, kl = key.length := ⟨_, rfl⟩
      have htw : ∀ w', Below w2.heap.size w2 w' → Calls Tryz.prog 15 #[.slice A1 kl c1'] w' (NewSl 5 w' kl (key.map b8)) := fun w' hb => by subst hkl; exact twin1_any A1 c1' key w' (hr1.grown hb) hbk.1
      rw [← hkl] at hp2 hoc hp9 HB
      have HX := hid (And.intro hsub (And.intro htw hkl))
      have h63 : k + j + 1 ≤ maxLen := by simp only [maxLen]; omega
      have hby : (k + j + 1) * 56 ≤ 140737488355328 := by omega
      clear hr hr1 hr3 hx hp hc1 hc3 hL hlb hsub hbk htw hkl
      go_wp2_with (first
        | ((with_reducible refine ld_mid 36 (.tmp 27) g (o + j * 3) _ 3 _ rfl hp2 Tryz.underlying36 rfl (by kernel_rfl) ?_ ?_ ?_ ?_); rfl; rfl; rfl)
        | ((with_reducible refine st_new 36 (.tmp 7) (.tmp 28) _ _ [b8 kind, .slice A1 kl c1', .slice A3 val.length c3'] 3 rfl ?_ (by kernel_rfl) hoc ?_ ?_ ?_ ?_ ?_); rfl; rfl; rfl; rfl; rfl)
        | (go_at_call 15
           refine (HX.out.2.1 _ (gro HR.out.2.2 HB.out)).mono ?_
           rintro e w7 ⟨A5, c5, rfl, hb7, hr7, hc7, -, ht7⟩
           have hbr := del_build_run A5 kl c5
           obtain ⟨y, hy⟩ : ∃ y, y = [b8 2, .slice A5 kl c5, .slice none 0 0] := ⟨_, rfl⟩
           have hyt : EntTy w7 y ⟨2, key, []⟩ := (by rw [hy, HX.out.2.2]; exact ⟨A5, c5, none, 0, rfl, hr7, Rd.nil _ _, by rw [← HX.out.2.2]; exact hc7, Nat.le_refl _, ht7, fun a ha => by cases ha⟩)
           rw [← hy] at hbr
           have hyl : ∀ x ∈ [y], x.length = 3 := (fun x hx => by rw [List.mem_singleton] at hx; subst hx; exact hyt.len)
           have hyl2 : [y].flatten.length = 1 * 3 := (by simpa using hyt.len)
           have hyo : ∀ v ∈ [y].flatten, v.oneCell' = true := (fun v hv => hyt.oc v (by simpa using hv))
           have hb8 := gro (gro HB.out hb7) (below_box w7 (.cells [y].flatten.toArray 36))
           have own8 := own_grown HR.out.1 hb8
           have hr8 := Rd.of _ (Blk.new w7 36 [y].flatten).whole
           have hbs8 := (gro HR.out.2.2 hb8).size
           have H8 := hid (And.intro hb8 (And.intro own8 (And.intro hr8 (hyt.stay (Stay.of_grown (below_box w7 (.cells [y].flatten.toArray 36)))))))
           clear hb7 hyt hy hb8 own8 hr8 hr7 hc7 ht7)
        | ((with_reducible refine bs_own 22 36 1 #[(0, .tmp 33)] [y] 3 (by decide) hyl rfl (by decide) (by decide) Tryz.underlying22 (by kernel_rfl) ?_ ?_ ?_ ?_); rfl; rfl; rfl)
        | ((with_reducible refine ap_own (.tmp 29) (.tmp 34) 22 Tryz.underlying22 info_entry rfl (by decide) H8.out.2.1 1 1 hyl2 H8.out.2.2.1 hyo h63 hby hbs8 ?_ ?_ ?_ ?_ ?_); rfl; rfl; rfl; rfl
           intro v9 w9 hn1 hn2 hn3 hn4
           obtain ⟨A9, c9, rfl, hr9, hc9⟩ := rd_own hn1
           have p9 := (But.append H8.out.2.1 hn2).pure (by decide)
           have hb9 := grownBy_below H8.out.2.1 (gro HR.out.2.2 H8.out.1) hbs8 hn2
           have he9 := ((HR.out.2.1.grown H8.out.1).append (EntsTy.one H8.out.2.2.2)).stay p9
           have H9 := hid (And.intro hn1 (And.intro he9 hb9))
           clear hn1 hn2 hn3 hn4 hr9 hc9 p9 hb9 he9))
      go_roundg (gk - 1)
      case measure => omega
      case rel =>
        refine ⟨j + 1, A9, c9, L' ++ [y], by omega, by go_num, rfl, ?_, ?_, H9.out.2.2⟩
        · rw [List.flatten_append]; exact H9.out.1
        · rw [HX.out.1, ← List.append_assoc]; exact H9.out.2.1
    · obtain rfl : j = k := by omega
      have he := HR.out.2.1
      rw [List.take_of_length_le (by rw [H2.out.2.1]; exact Nat.le_refl _)] at he
      obtain ⟨A6, c6, e6, hr6, -⟩ := rd_own HR.out.1
      cases e6
      have hDl : (gs ++ En.dels gs).length = j + j := by rw [List.length_append, En.dels_len, H2.out.2.1]
      have hall := HG.out.2
      have hgone := Sn.gone_root n gs
      obtain ⟨D, hD⟩ : ∃ D, D = gs ++ En.dels gs := ⟨_, rfl⟩
      rw [← hD] at he hDl hall hgone
      obtain ⟨N, hN⟩ : ∃ N, N = j + j := ⟨_, rfl⟩
      rw [← hN] at hDl
      rw [← hN]
      have hN400 : N + 2 < 1048576 := by omega
      obtain ⟨M, hM⟩ : ∃ M, M = N + 1 := ⟨_, rfl⟩
      have hw5 := HA.out.2.2.2.1.below (gro H2.out.1 HR.out.2.2)
      have hroots := rootsN_any n HA.out.2.2.2.2.1 HA.out.2.2.2.2.2 D Ar N cr L' wr hw5 hDl hr6 he.ents hN400
      rw [← hM] at hroots
      have hwM : IntKind.i64.wrap ((N : Int) + 1) = (M : Int) := by rw [IntKind.wrap_i64]; omega
      have HD := hid (And.intro hroots (And.intro hall (And.intro hDl (And.intro hgone hM))))
      have hbl := gro H2.out.1 HR.out.2.2
      have HBL := hid hbl
      clear hroots hall hDl hgone hM hN hD he hr6 hw5 hbl
      go_upto_region 15 with (
        (go_at_call 9
         refine HD.out.1.mono ?_
         rintro e w5 ⟨hb5, ⟨hne, -⟩ | ⟨-, A5, c5, rfl, hr5⟩⟩
         · exact absurd HD.out.2.1 hne
         have H5 := hid (And.intro hb5 hr5)
         clear hb5 hr5))
      have hok := Rl_ok n HA.out.2.2.2.2.2 D N (by omega)
      have h65 := rtRow_len hok
      have hrl : (rtRow (Rl n D N)).length = M := by rw [HD.out.2.2.2.2]; simp [rtRow, Rl]
      obtain ⟨g5, o5, rfl, hr5⟩ := H5.out.2 (by
        intro e
        have := flatten_len 65 _ h65
        rw [e, hrl] at this
        simp at this
        have := HD.out.2.2.2.2
        omega)
      have hpart : ∀ i, i ≤ N → w5.rangeAt g5 (o5 + i * 65) (rtCells (Sn.root n (D.take i))) := fun i hi => by
        have := range_part hr5 h65 i (by rw [hrl, HD.out.2.2.2.2]; omega)
        simpa [rtRow, Rl] using this
      have hroot : ∀ i, i ≤ N → RtOk (Sn.root n (D.take i)) := fun i hi => Sn.root_ok2 n HA.out.2.2.2.2.2 _ (by rw [List.length_take]; omega)
      obtain ⟨d, hd⟩ : ∃ d, d = Dg.noMap n := ⟨_, rfl⟩
      have hdl : d.length = 32 := by rw [hd]; exact Dg.sum_length n _ HA.out.2.2.2.2.2
      have hdm : (d.map b8).length = 32 := by simp [hdl]
      have p0 : w5.rangeAt g5 (o5 + 33) (d.map b8) := by
        have := rt_map_range (hroot 0 (Nat.zero_le _)) (hpart 0 (Nat.zero_le _))
        rw [show (Sn.root n (D.take 0)).map = d from by rw [hd]; rfl] at this
        simpa using this
      have pN : w5.rangeAt g5 (o5 + N * 65 + 33) (d.map b8) := by
        have := rt_map_range (hroot N (Nat.le_refl _)) (hpart N (Nat.le_refl _))
        rw [List.take_of_length_le (by rw [HD.out.2.2.1]; exact Nat.le_refl _), HD.out.2.2.2.1, ← hd] at this
        exact this
      have hnm : ∀ s : Fut w5, Calls Tryz.prog 16 #[.int .i64 n] s.v fun e w'' => e = .returned (dg d) ∧ ∃ s' : Fut w5, w'' = s'.v := fun s => by rw [hd]; exact Calls.fut_of (rnomap_any n s.v HA.out.2.2.2.2.2)
      have hneq := run_neq_dig d hdl
      have hsz : ∀ i, i < M → w5.cell? ⟨g5, o5 + i * 65, none⟩ = some (.int .u64 i) := fun i hi => by
        have hiN : i ≤ N := by have := HD.out.2.2.2.2; omega
        have := hpart i hiN 0 (.int .u64 (Sn.root n (D.take i)).size) rfl
        rw [show (Sn.root n (D.take i)).size = i from by show (D.take i).length = i; rw [List.length_take, HD.out.2.2.1]; omega] at this
        exact this
      have HC := hid (And.intro hnm (And.intro (range_fut p0) (And.intro (range_fut pN) hsz)))
      have hNM : (0 : Int) ≤ (N : Int) ∧ (N : Int) < (M : Int) := by have := HD.out.2.2.2.2; omega
      have h0M : (0 : Int) < (M : Int) := by have := HD.out.2.2.2.2; omega
      clear hnm p0 pN hsz hroot hpart hr5 hok h65 hrl hd
      refine wp_region_fut (by kernel_rfl) (by kernel_rfl) ?_
      repeat (first
        | (go_big_quiet_want; (with_reducible refine quiet_ld 40 (.tmp 56) g5 (o5 + 33) (d.map b8) 32 _ hdm HC.out.2.1 Tryz.underlying40 rfl (by kernel_rfl) ?_ ?_ ?_); rfl; rfl; simp only [Act.put, List.setIfInBounds_toArray, List.set_cons_zero, List.set_cons_succ]; go_big_quiet_on)
        | (go_big_quiet_want; (with_reducible refine quiet_ld 40 (.tmp 62) g5 (o5 + N * 65 + 33) (d.map b8) 32 _ hdm HC.out.2.2.1 Tryz.underlying40 rfl (by kernel_rfl) ?_ ?_ ?_); rfl; rfl; simp only [Act.put, List.setIfInBounds_toArray, List.set_cons_zero, List.set_cons_succ]; go_big_quiet_on)
        | (go_big_quiet_want; (with_reducible refine quiet_ld 40 (.tmp 69) g5 (o5 + 33) (d.map b8) 32 _ hdm HC.out.2.1 Tryz.underlying40 rfl (by kernel_rfl) ?_ ?_ ?_); rfl; rfl; simp only [Act.put, List.setIfInBounds_toArray, List.set_cons_zero, List.set_cons_succ]; go_big_quiet_on)
        | go_big_quiet_step (with_reducible exact HC.out.1 _))
      refine wpQuiet_nil ?_
      rintro _ ⟨s, rfl⟩
      go_wp2_with fail
      go_loopg [10] M (fun g i wx => ∃ q : Nat, q + g = M ∧ i = .int .i64 q ∧ Below s.v.heap.size s.v wx)
      case atStart => exact ⟨0, by omega, rfl, Below.refl _ _⟩
      case round =>
        obtain ⟨q, hq, rfl, hbx⟩ := hrel
        have HX := hid hbx
        by_cases hqM : q < M
        · have k0 : wr.cell? ⟨g5, o5 + q * 65, none⟩ = some (.int .u64 q) := by
            have h5 := HC.out.2.2.2 q hqM
            have hb := gro s.below hbx
            rw [hb.cell (p := ⟨g5, o5 + q * 65, none⟩) (World.block_lt_of_cell? w5 _ h5)]; exact h5
          have hwq : IntKind.u64.wrap (q : Int) = (q : Int) := by
            have h9 := HD.out.2.2.2.2
            rw [IntKind.wrap_u64]; omega
          clear hbx
          go_wp2_with fail
          go_roundg (gk - 1)
          case measure => omega
          case rel =>
            have h9 := HD.out.2.2.2.2
            refine ⟨q + 1, by omega, ?_, HX.out⟩
            rw [wrap_succ q (by omega)]
        · obtain rfl : q = M := by omega
          clear hbx
          go_wp2_with fail
          go_ret
          exact ⟨rfl, gro HBL.out (gro H5.out.1 (gro s.below HX.out))⟩
theorem replaygone_any (x : Int) (es : List Ent) (A : Option Addr) (m c : Nat) (L : List (List Value)) (w : World) (hw : Words w) (hm : es.length = m) (hA : Rd w A L.flatten) (hE : EntsAt w L es) :
    Calls Tryz.prog 4 #[.int .i64 x, .slice A m c] w fun e w' => e = .returned (.bool true) ∧ Below w.heap.size w w' := by
  by_cases h200 : 200 < m
  · exact gone_short x es A m c w hw h200
  · by_cases hx : 1 ≤ x ∧ x ≤ 32
    · obtain ⟨n, rfl⟩ := Int.eq_ofNat_of_zero_le (show 0 ≤ x by omega)
      exact gone_full n (by omega) (by omega) es A m c L w hw hm hA hE h200
    · exact gone_width x es A m c L w hw hm hA hE h200 hx
end Go.Proofs.YtpnakfeafekneaaGreatDoor
