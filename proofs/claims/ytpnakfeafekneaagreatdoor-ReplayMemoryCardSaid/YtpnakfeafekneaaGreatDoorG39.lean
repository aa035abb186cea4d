/- Part 39 of this proof: YP, ZA, ZF, ZG, ZH, ZI, ZJ, ZK. -/
import Derived.LaidMore
import Derived.OpenShut
import Derived.Stop.Joined
import Derived.Test.YtpnakfeafekneaaGreatDoorG37
import Derived.Test.YtpnakfeafekneaaGreatDoorG38
set_option linter.unusedSimpArgs false
set_option linter.unusedVariables false
namespace Go.Proofs.YtpnakfeafekneaaGreatDoor
open Go.ChangeShapes Go.WideShapes Go.ChangeAt Go.Deep Go.RowKit
theorem own : ownKnob Tryz.prog.godebug = none := by kernel_rfl
theorem laidOut : laidOutB Tryz.prog = true := by kernel_rfl
theorem gWords : Tryz.prog.globalNamed "notary/sha.words" = some 0 := by kernel_rfl
theorem tWords : (Tryz.prog.globals[(0 : Nat)]?).map (·.type) = some 245 := by kernel_rfl
def laidW : List (String × DataW Unit) := [("notary/sha.words", Rows.laid_notary_sha_words)]
theorem datum_eq {H : Type} : (Rows.laid_notary_sha_words : DataW H) = .agg (Sha.kList.map fun k => .lit (.int .u32 (n32 k))) := by kernel_rfl
set_option maxRecDepth 100000 in
theorem of_laid {W : World} (h : laidMetH Tryz.prog laidW W) : Words W := by
  rw [MakeChecks.laidMetH_plain _ _ _ (by kernel_rfl)] at h
  obtain ⟨ps, ⟨g0, t0, cs0, f0, p0, q0, hg0, ht0, hv0, hd0, _, _⟩, _, _⟩ := h
  obtain rfl := Option.some.inj (gWords.symm.trans hg0)
  obtain rfl := Option.some.inj (tWords.symm.trans ht0)
  obtain ⟨xs, m1, rfl, hx1, hlen, hn3, hel⟩ := DataW.trod_array Tryz.underlying245 hd0
  simp only [Prod.mk.injEq] at hx1
  obtain ⟨hx1, -⟩ := hx1
  rw [datum_eq] at hx1
  injection hx1 with hx1
  have c1 : Tryz.prog.cellsOf 198 = 1 := by kernel_rfl
  have c64 : Tryz.prog.cellsOf 245 = 64 := by kernel_rfl
  rw [c64] at hlen
  have key : ∀ i, i < 64 → W.cell? ⟨0, i, none⟩ = some (b32 (Sha.K i)) := by
    intro i hi
    have hE := hel i hi
    rw [c1, Nat.mul_one] at hE
    have hil : i < cs0.toList.length := by omega
    rw [List.drop_eq_getElem_cons hil, List.take_succ_cons, List.take_zero] at hE
    have hxi : xs[i]? = some (xs[i]'(by omega)) := by simp
    rw [hxi] at hE
    obtain ⟨z, hz, hy, -⟩ := DataW.trod_int Tryz.underlying198 hE
    have hd : (Sha.kList.map fun k => (DataW.lit (.int .u32 (n32 k)) : DataW Unit))[i]? = some (DataW.lit (.int .u32 (n32 (Sha.K i)))) := by
      have hl : i < Sha.kList.length := hi
      simp [Sha.K, hl]
    rw [hx1, List.getElem?_map, hxi, Option.map_some, hy] at hd
    simp only [Option.some.injEq, DataW.lit.injEq, Lit.int.injEq, true_and] at hd
    have hc := World.var?_cell hg0 hv0 i
    rw [hc]
    have hci : cs0[i]? = some (.int .u32 z) := by
      simp only [List.cons.injEq, and_true] at hz
      rw [← hz]
      simp
    rw [hci, hd]
  exact ⟨key, World.block_lt_of_cell? W _ (key 0 (by decide))⟩
end Go.Proofs.YtpnakfeafekneaaGreatDoor

namespace Go.Proofs.YtpnakfeafekneaaGreatDoor
open Go.RowKit
set_option maxHeartbeats 2000000 in
set_option maxRecDepth 100000 in
theorem twinsO_any (es : List Ent) (A : Option Addr) (c : Nat) (L : List (List Value)) (w : World) (hA : Rd w A L.flatten) (hE : EntsAt w L es) (hn : es.length < 1048576) (hb : ∀ e ∈ es, e.key.length ≤ 140737488355328 ∧ e.val.length ≤ 140737488355328) :
    Calls Tryz.prog 10 #[.slice A es.length c] w fun e w' => ∃ Ar cr L', e = .returned (.slice Ar es.length cr) ∧ Below w.heap.size w w' ∧ w'.ownsRow w.heap.size 36 3 (.slice Ar es.length cr) es.length L'.flatten ∧ EntsTy w' L' es := by
  have HA := hid (And.intro hA (And.intro hE hb))
  clear hA hE hb
  go_enter Tryz.func10, Tryz.ntmps10
  go_wp2_with fail
  go_loopg [3, 8] es.length (fun g s3 i wr => ∃ (j : Nat) (Ar : Option Addr) (cr : Nat) (L' : List (List Value)), j + g = es.length ∧ i = .int .i64 j ∧ s3 = .slice Ar j cr ∧ wr.ownsRow w.heap.size 36 3 (.slice Ar j cr) j L'.flatten ∧ EntsTy wr L' (es.take j) ∧ Below w.heap.size w wr)
  case atStart => exact ⟨0, none, 0, [], by omega, rfl, rfl, World.ownsRow_nil _ _ _ _, ⟨rfl, fun i x p h => by simp at h⟩, Below.refl _ _⟩
  case round =>
    obtain ⟨j, Ar, cr, L', hj, rfl, rfl, ho, he, hbl⟩ := hrel
    have HR := hid (And.intro ho (And.intro he hbl))
    clear ho he hbl
    by_cases hlt : j < es.length
    · obtain ⟨kind, key, val, hjj⟩ : ∃ kind key val, es[j]? = some ⟨kind, key, val⟩ := ⟨es[j].kind, es[j].key, es[j].val, by simp [hlt]⟩
      have hsub : es.take (j + 1) = es.take j ++ [⟨kind, key, val⟩] := by rw [List.take_succ_eq_append_getElem hlt, (List.getElem?_eq_some_iff.1 hjj).2]
      have hL := HA.out.2.1.len
      have hjl : j < L.length := by omega
      obtain ⟨g, o, rfl, hr⟩ := HA.out.1 (by
        intro e
        have := flatten_len 3 _ HA.out.2.1.three
        rw [e] at this
        simp at this; omega)
      have hp := range_part hr HA.out.2.1.three j hjl
      have hbk := HA.out.2.2 _ (List.mem_of_getElem? hjj)
      obtain ⟨A1, c1', A2, c2', hx, hr1, hr2, hc1, hc2⟩ := HA.out.2.1.at_ j L[j] ⟨kind, key, val⟩ (by simp [hjl]) hjj
      rw [hx] at hp
      simp only [] at hp
      have hlb := range_lt hp (by simp)
      have hp2 := range_below hp HR.out.2.2 hlb
      have hea : EntAt w [b8 kind, .slice A1 key.length c1', .slice A2 val.length c2'] ⟨kind, key, val⟩ := ⟨A1, c1', A2, c2', rfl, hr1, hr2, hc1, hc2⟩
      have hoc : ∀ v ∈ [b8 kind, .slice A1 key.length c1', .slice A2 val.length c2'], v.oneCell' = true := fun v hv => by
        simp only [List.mem_cons, List.not_mem_nil, or_false] at hv
        rcases hv with rfl | rfl | rfl <;> rfl
      have hp9 := (Blk.new wr 36 [b8 kind, .slice A1 key.length c1', .slice A2 val.length c2']).whole
      have HB := hid (below_box wr (.cells [b8 kind, .slice A1 key.length c1', .slice A2 val.length c2'].toArray 36))
      have HX := hid (And.intro hsub (And.intro hea hbk))
      have h63 : j + 1 ≤ maxLen := by simp only [maxLen]; omega
      have hby : (j + 1) * 56 ≤ 140737488355328 := by omega
      clear hr hr1 hr2 hx hp hc1 hc2 hL hlb hsub hea hbk
      go_wp2_with (first
        | ((with_reducible refine ld_mid 36 (.tmp 10) g (o + j * 3) _ 3 _ rfl hp2 Tryz.underlying36 rfl (by kernel_rfl) ?_ ?_ ?_ ?_); rfl; rfl; rfl)
        | ((with_reducible refine st_new 36 (.tmp 5) (.tmp 11) _ _ [b8 kind, .slice A1 key.length c1', .slice A2 val.length c2'] 3 rfl ?_ (by kernel_rfl) hoc ?_ ?_ ?_ ?_ ?_); rfl; rfl; rfl; rfl; rfl)
        | ((with_reducible refine ld_mid 36 (.tmp 5) wr.heap.size 0 _ 3 _ rfl hp9 Tryz.underlying36 rfl (by kernel_rfl) ?_ ?_ ?_ ?_); rfl; rfl; rfl)
        | (go_at_call 41
           refine (twinE_any _ ⟨kind, key, val⟩ _ (HX.out.2.1.grown (gro HR.out.2.2 HB.out)) HX.out.2.2.1 HX.out.2.2.2).mono ?_
           rintro e w7 ⟨y, rfl, hb7, hy⟩
           have hyl : ∀ x ∈ [y], x.length = 3 := (fun x hx => by rw [List.mem_singleton] at hx; subst hx; exact hy.len)
           have hyl2 : [y].flatten.length = 1 * 3 := (by simpa using hy.len)
           have hyo : ∀ v ∈ [y].flatten, v.oneCell' = true := (fun v hv => hy.oc v (by simpa using hv))
           have hb8 := gro (gro HB.out hb7) (below_box w7 (.cells [y].flatten.toArray 36))
           have own8 := own_grown HR.out.1 hb8
           have hr8 := Rd.of _ (Blk.new w7 36 [y].flatten).whole
           have hbs8 := (gro HR.out.2.2 hb8).size
           have H8 := hid (And.intro hb8 (And.intro own8 (And.intro hr8 (hy.stay (Stay.of_grown (below_box w7 (.cells [y].flatten.toArray 36)))))))
           clear hb7 hy hb8 own8 hr8)
        | ((with_reducible refine bs_own 22 36 1 #[(0, .tmp 14)] [y] 3 (by decide) hyl rfl (by decide) (by decide) Tryz.underlying22 (by kernel_rfl) ?_ ?_ ?_ ?_); rfl; rfl; rfl)
        | ((with_reducible refine ap_own (.tmp 12) (.tmp 15) 22 Tryz.underlying22 info_entry rfl (by decide) H8.out.2.1 1 1 hyl2 H8.out.2.2.1 hyo h63 hby hbs8 ?_ ?_ ?_ ?_ ?_); rfl; rfl; rfl; rfl
           intro v9 w9 hn1 hn2 hn3 hn4
           obtain ⟨A9, c9, rfl, hr9, hc9⟩ := rd_own hn1
           have p9 := (But.append H8.out.2.1 hn2).pure (by decide)
           have hb9 := grownBy_below H8.out.2.1 (gro HR.out.2.2 H8.out.1) hbs8 hn2
           have he9 := ((HR.out.2.1.grown H8.out.1).append (EntsTy.one H8.out.2.2.2)).stay p9
           have H9 := hid (And.intro hn1 (And.intro he9 hb9))
           clear hn1 hn2 hn3 hn4 hr9 hc9 p9 hb9 he9))
      go_roundg (gk - 1)
      case measure => omega
      case rel =>
        refine ⟨j + 1, A9, c9, L' ++ [y], by omega, by go_num, rfl, ?_, ?_, H9.out.2.2⟩
        · rw [List.flatten_append]; exact H9.out.1
        · rw [HX.out.1]; exact H9.out.2.1
    · obtain rfl : j = es.length := by omega
      have hel := HR.out.2.1
      rw [List.take_length] at hel
      have HE9 := hid hel
      have HO9 := hid HR.out.1
      clear hel
      go_wp2_with fail
      go_ret
      exact ⟨Ar, cr, L', rfl, HR.out.2.2, HO9.out, HE9.out⟩
def En.good (es : List Ent) : List Ent := es.filter fun e => decide (En.check e = 0)
theorem En.good_take (es : List Ent) (j : Nat) (hj : j < es.length) : En.good (es.take (j + 1)) = if En.check es[j] = 0 then En.good (es.take j) ++ [es[j]] else En.good (es.take j) := by
  unfold En.good
  rw [List.take_succ_eq_append_getElem hj, List.filter_append]
  by_cases h : En.check es[j] = 0
  · simp [h]
  · simp [h]
theorem En.good_le (es : List Ent) : (En.good es).length ≤ es.length := List.length_filter_le _ _
theorem ents_append {w : World} {L1 L2 : List (List Value)} {m1 m2 : List Ent} (h1 : EntsAt w L1 m1) (h2 : EntsAt w L2 m2) : EntsAt w (L1 ++ L2) (m1 ++ m2) := by
  refine ⟨by simp [h1.len, h2.len], fun i x p hx hp => ?_⟩
  have hl := h1.len
  by_cases hi : i < L1.length
  · rw [List.getElem?_append_left hi] at hx
    rw [List.getElem?_append_left (by omega)] at hp
    exact h1.at_ i x p hx hp
  · rw [List.getElem?_append_right (by omega)] at hx
    rw [List.getElem?_append_right (by omega)] at hp
    exact h2.at_ _ x p hx (by rw [hl]; exact hp)
set_option maxHeartbeats 2000000 in
set_option maxRecDepth 100000 in
theorem good_any (es : List Ent) (A : Option Addr) (m c : Nat) (L : List (List Value)) (w : World) (hm : es.length = m) (hA : Rd w A L.flatten) (hE : EntsAt w L es) (hn : m < 1048576) :
    Calls Tryz.prog 13 #[.slice A m c] w fun e w' => ∃ Ar k cr L', e = .returned (.slice Ar k cr) ∧ Below w.heap.size w w' ∧ (En.good es).length = k ∧ k ≤ cr ∧ Rd w' Ar L'.flatten ∧ EntsAt w L' (En.good es) := by
  have HA := hid (And.intro hA (And.intro hE hm))
  clear hA hE hm
  go_enter Tryz.func13, Tryz.ntmps13
  go_wp2_with fail
  go_loopg [3, 8] m (fun g s3 i wr => ∃ (j : Nat) (Ar : Option Addr) (k cr : Nat) (L' : List (List Value)), j + g = m ∧ k ≤ j ∧ i = .int .i64 j ∧ s3 = .slice Ar k cr ∧ wr.ownsRow w.heap.size 36 3 (.slice Ar k cr) k L'.flatten ∧ EntsAt w L' (En.good (es.take j)) ∧ (En.good (es.take j)).length = k ∧ Below w.heap.size w wr)
  case atStart => exact ⟨0, none, 0, 0, [], by omega, Nat.le_refl _, rfl, rfl, World.ownsRow_nil _ _ _ _, ⟨rfl, fun i x p h => by simp at h⟩, rfl, Below.refl _ _⟩
  case round =>
    obtain ⟨j, Ar, k, cr, L', hj, hkj, rfl, rfl, ho, he, hkl, hbl⟩ := hrel
    have HR := hid (And.intro ho (And.intro he (And.intro hbl hkl)))
    clear ho he hbl hkl
    by_cases hlt : j < m
    · have hje : j < es.length := by have := HA.out.2.2; omega
      have hgt := En.good_take es j hje
      obtain ⟨kind, key, val, hjj⟩ : ∃ kind key val, es[j]? = some ⟨kind, key, val⟩ := ⟨es[j].kind, es[j].key, es[j].val, by simp [hje]⟩
      rw [(List.getElem?_eq_some_iff.1 hjj).2] at hgt
      have hL := HA.out.2.1.len
      have hjl : j < L.length := by omega
      obtain ⟨g, o, rfl, hr⟩ := HA.out.1 (by
        intro e
        have := flatten_len 3 _ HA.out.2.1.three
        rw [e] at this
        simp at this; omega)
      have hp := range_part hr HA.out.2.1.three j hjl
      have hat := HA.out.2.1.at_ j L[j] ⟨kind, key, val⟩ (by simp [hjl]) hjj
      obtain ⟨A1, c1', A2, c2', hx, hr1, hr2, hc1, hc2⟩ := hat
      rw [hx] at hp
      simp only [] at hp
      have hlb := range_lt hp (by simp)
      have hp2 := range_below hp HR.out.2.2.1 hlb
      have hea : EntAt w [b8 kind, .slice A1 key.length c1', .slice A2 val.length c2'] ⟨kind, key, val⟩ := ⟨A1, c1', A2, c2', rfl, hr1, hr2, hc1, hc2⟩
      obtain ⟨y, hy⟩ : ∃ y, y = [b8 kind, .slice A1 key.length c1', .slice A2 val.length c2'] := ⟨_, rfl⟩
      have hoc : ∀ v ∈ y, v.oneCell' = true := fun v hv => by
        rw [hy] at hv
        simp only [List.mem_cons, List.not_mem_nil, or_false] at hv
        rcases hv with rfl | rfl | rfl <;> rfl
      have hyl : y.length = 3 := by rw [hy]; rfl
      have hcc : ∀ w', Calls Tryz.prog 43 #[.agg y.toArray] w' fun e w'' => e = .returned (.int .i64 (En.check ⟨kind, key, val⟩)) ∧ Below w'.heap.size w' w'' := fun w' => by rw [hy]; exact doccheck_e kind A1 A2 key.length c1' val.length c2' w'
      rw [← hy] at hp2 hea
      obtain ⟨z, hz⟩ : ∃ z, z = En.check ⟨kind, key, val⟩ := ⟨_, rfl⟩
      rw [← hz] at hcc hgt
      have hp9 := (Blk.new wr 36 y).whole
      have hb1 := below_box wr (.cells y.toArray 36)
      have hsl : ∀ x ∈ [y], x.length = 3 := fun x hx => by rw [List.mem_singleton] at hx; subst hx; exact hyl
      have hsl2 : [y].flatten.length = 1 * 3 := by simp [hyl]
      have hso : ∀ v ∈ [y].flatten, v.oneCell' = true := fun v hv => hoc v (by simpa using hv)
      have h63 : k + 1 ≤ maxLen := by simp only [maxLen]; omega
      have hby : (k + 1) * 56 ≤ 140737488355328 := by omega
      have HX := hid (And.intro hea (And.intro hcc (And.intro hgt (And.intro hb1 hp9))))
      clear hr hr1 hr2 hx hp hc1 hc2 hL hlb hea hcc hgt hb1 hy hz
      by_cases hz0 : z = 0
      · subst hz0
        go_wp2_with (first
          | ((with_reducible refine ld_mid 36 (.tmp 10) g (o + j * 3) y 3 _ hyl hp2 Tryz.underlying36 rfl (by kernel_rfl) ?_ ?_ ?_ ?_); rfl; rfl; rfl)
          | ((with_reducible refine st_new 36 (.tmp 5) (.tmp 11) _ _ y 3 hyl ?_ (by kernel_rfl) hoc ?_ ?_ ?_ ?_ ?_); rfl; rfl; rfl; rfl; rfl)
          | (go_at_call 43
             refine (HX.out.2.1 _).mono ?_
             rintro e7 w7 ⟨rfl, hb7⟩
             have hp7 := range_grown HX.out.2.2.2.2 hb7
             have hb8 := gro (gro HX.out.2.2.2.1 hb7) (below_box w7 (.cells [y].flatten.toArray 36))
             have own8 := own_grown HR.out.1 hb8
             have hr8 := Rd.of _ (Blk.new w7 36 [y].flatten).whole
             have hbs8 := (gro HR.out.2.2.1 hb8).size
             have H8 := hid (And.intro hb8 (And.intro own8 hr8))
             clear hb7 hb8 own8 hr8)
          | ((with_reducible refine ld_mid 36 (.tmp 5) wr.heap.size 0 y 3 _ hyl hp7 Tryz.underlying36 rfl (by kernel_rfl) ?_ ?_ ?_ ?_); rfl; rfl; rfl)
          | ((with_reducible refine ld_mid 36 (.tmp 5) wr.heap.size 0 y 3 _ hyl hp9 Tryz.underlying36 rfl (by kernel_rfl) ?_ ?_ ?_ ?_); rfl; rfl; rfl)
          | ((with_reducible refine bs_own 22 36 1 #[(0, .tmp 16)] [y] 3 (by decide) hsl rfl (by decide) (by decide) Tryz.underlying22 (by kernel_rfl) ?_ ?_ ?_ ?_); rfl; rfl; rfl)
          | ((with_reducible refine ap_own (.tmp 15) (.tmp 17) 22 Tryz.underlying22 info_entry rfl (by decide) H8.out.2.1 1 1 hsl2 H8.out.2.2 hso h63 hby hbs8 ?_ ?_ ?_ ?_ ?_); rfl; rfl; rfl; rfl
             intro v9 w9 hn1 hn2 hn3 hn4
             obtain ⟨A9, c9, rfl, hr9, hc9⟩ := rd_own hn1
             have H9 := hid (And.intro hn1 (grownBy_below H8.out.2.1 (gro HR.out.2.2.1 H8.out.1) hbs8 hn2))
             clear hn1 hn2 hn3 hn4 hr9 hc9))
        go_roundg (gk - 1)
        case measure => omega
        case rel =>
          have hg := HX.out.2.2.1
          simp only [if_true] at hg
          exact ⟨j + 1, A9, k + 1, c9, L' ++ [y], by omega, by omega, by go_num, rfl, by rw [List.flatten_append]; exact H9.out.1, by rw [hg]; exact ents_append HR.out.2.1 (ents_one HX.out.1), by rw [hg, List.length_append, HR.out.2.2.2]; rfl, H9.out.2⟩
      · have hzi : ¬ (z : Int) = 0 := by omega
        go_wp2_with (first
          | ((with_reducible refine ld_mid 36 (.tmp 10) g (o + j * 3) y 3 _ hyl hp2 Tryz.underlying36 rfl (by kernel_rfl) ?_ ?_ ?_ ?_); rfl; rfl; rfl)
          | ((with_reducible refine st_new 36 (.tmp 5) (.tmp 11) _ _ y 3 hyl ?_ (by kernel_rfl) hoc ?_ ?_ ?_ ?_ ?_); rfl; rfl; rfl; rfl; rfl)
          | ((with_reducible refine ld_mid 36 (.tmp 5) wr.heap.size 0 y 3 _ hyl hp9 Tryz.underlying36 rfl (by kernel_rfl) ?_ ?_ ?_ ?_); rfl; rfl; rfl)
          | (go_at_call 43
             refine (HX.out.2.1 _).mono ?_
             rintro e7 w7 ⟨rfl, hb7⟩
             have H7 := hid (gro HX.out.2.2.2.1 hb7)
             clear hb7))
        go_roundg (gk - 1)
        case measure => omega
        case rel =>
          have hg := HX.out.2.2.1
          rw [if_neg hz0] at hg
          exact ⟨j + 1, Ar, k, cr, L', by omega, by omega, by go_num, rfl, own_grown HR.out.1 H7.out, by rw [hg]; exact HR.out.2.1, by rw [hg]; exact HR.out.2.2.2, gro HR.out.2.2.1 H7.out⟩
    · obtain rfl : j = m := by omega
      have hel := HR.out.2.1
      have hkl := HR.out.2.2.2
      rw [List.take_of_length_le (by have := HA.out.2.2; omega)] at hel hkl
      obtain ⟨hr9, hc9⟩ := own_rd HR.out.1
      have HE9 := hid (And.intro hr9 (And.intro hel (And.intro hkl hc9)))
      clear hr9 hel hkl hc9
      go_wp2_with fail
      go_ret
      exact ⟨Ar, k, cr, L', rfl, HR.out.2.2.1, HE9.out.2.2.1, HE9.out.2.2.2, HE9.out.1, HE9.out.2.1⟩
end Go.Proofs.YtpnakfeafekneaaGreatDoor

namespace Go.Proofs.YtpnakfeafekneaaGreatDoor
open Go.RowKit
end Go.Proofs.YtpnakfeafekneaaGreatDoor

namespace Go.Proofs.YtpnakfeafekneaaGreatDoor
open Go.RowKit
def BatTy (w : World) (x : List Value) (F : Nat) (b : List Ent) : Prop := ∃ A c L, x = [.int .u64 F, .slice A b.length c] ∧ Rd w A L.flatten ∧ EntsTy w L b ∧ Tyd w 36 A
theorem BatTy.at_ {w : World} {x : List Value} {F : Nat} {b : List Ent} (h : BatTy w x F b) : BatAt w x F b := by
  obtain ⟨A, c, L, e, h1, h2, -⟩ := h
  exact ⟨A, c, L, e, h1, h2.ents⟩
theorem EntTy.but {x : TypeId} (hx : 5 ≠ x) {w w' : World} (h : But x w w') {y : List Value} {p : Ent} (hp : EntTy w y p) : EntTy w' y p := by
  obtain ⟨A1, c1, A2, c2, e, h1, h2, h3, h4, h5, h6⟩ := hp
  exact ⟨A1, c1, A2, c2, e, Stay.rdb h h1 h5 hx, Stay.rdb h h2 h6 hx, h3, h4, Stay.tyb h h5 hx, Stay.tyb h h6 hx⟩
theorem EntsTy.but {x : TypeId} (hx : 5 ≠ x) {w w' : World} (h : But x w w') {L : List (List Value)} {es : List Ent} (hp : EntsTy w L es) : EntsTy w' L es := ⟨hp.len, fun i y p h1 h2 => (hp.at_ i y p h1 h2).but hx h⟩
theorem BatTy.but {x : TypeId} (hx : 5 ≠ x) (hx2 : 36 ≠ x) {w w' : World} (h : But x w w') {y : List Value} {F : Nat} {b : List Ent} (hb : BatTy w y F b) : BatTy w' y F b := by
  obtain ⟨A, c, L, e, h1, h2, h3⟩ := hb
  exact ⟨A, c, L, e, Stay.rd h h1 h3 hx2, h2.but hx h, Stay.tyd h h3 hx2⟩
theorem BatTy.grown {w w' : World} {x : List Value} {F : Nat} {b : List Ent} (h : BatTy w x F b) (hb : Below w.heap.size w w') : BatTy w' x F b := by
  obtain ⟨A, c, L, e, h1, h2, h3⟩ := h
  exact ⟨A, c, L, e, h1.grown hb, h2.grown hb, h3.grown hb⟩
theorem BatTy.two {w : World} {x : List Value} {F : Nat} {b : List Ent} (h : BatTy w x F b) : x.length = 2 := by
  obtain ⟨A, c, L, rfl, _⟩ := h; rfl
theorem BatTy.oc {w : World} {x : List Value} {F : Nat} {b : List Ent} (h : BatTy w x F b) : ∀ v ∈ x, v.oneCell' = true := by
  obtain ⟨A, c, L, rfl, _⟩ := h
  intro v hv
  simp only [List.mem_cons, List.not_mem_nil, or_false] at hv
  rcases hv with rfl | rfl <;> rfl
end Go.Proofs.YtpnakfeafekneaaGreatDoor

namespace Go.Proofs.YtpnakfeafekneaaGreatDoor
open Go.RowKit
theorem fitsR_any (F n : Nat) (w : World) (hF : F < 18446744073709551616) (hn : n < 4611686018427387904) :
    Calls Tryz.prog 77 #[.int .u64 F, .int .i64 n] w fun e w' => e = .returned (.bool (decide (F + n < 18446744073709551616))) ∧ w = w' := by
  have h1 : IntKind.u64.wrap (n : Int) = (n : Int) := by rw [IntKind.wrap_u64]; omega
  by_cases h : F + n < 18446744073709551616
  · have h2 : IntKind.u64.wrap ((F : Int) + (n : Int)) = (F : Int) + (n : Int) := by rw [IntKind.wrap_u64]; omega
    have h3 : (F : Int) ≤ (F : Int) + (n : Int) := by omega
    rw [decide_eq_true h]
    clear hF hn h
    go_enter Tryz.func77, Tryz.ntmps77
    go_wp2_with fail
    go_ret
    exact ⟨rfl, rfl⟩
  · have h2 : IntKind.u64.wrap ((F : Int) + (n : Int)) = (F : Int) + (n : Int) - 18446744073709551616 := by rw [IntKind.wrap_u64]; omega
    have h3 : ¬ (F : Int) ≤ (F : Int) + (n : Int) - 18446744073709551616 := by omega
    rw [decide_eq_false h]
    clear hF hn h
    go_enter Tryz.func77, Tryz.ntmps77
    go_wp2_with fail
    go_ret
    exact ⟨rfl, rfl⟩
theorem En.bchk_long {F : Nat} {es : List Ent} (h : 64 < es.length) : En.bchk F es = 2 := by
  unfold En.bchk
  have hb : En.bfirst F es.length = 2 := by
    unfold En.bfirst
    rw [if_pos h]
    split <;> rfl
  rw [hb]
  exact En.fold_two es 2 (.inr (.inl rfl)) (.inl rfl)
theorem En.bfirst_short {F n : Nat} (h : ¬ 64 < n) : En.bfirst F n = if n = 0 ∨ ¬ F + n < 18446744073709551616 then 3 else 0 := by
  unfold En.bfirst
  rw [if_neg h]
  rfl
set_option maxHeartbeats 4000000 in
set_option maxRecDepth 100000 in
theorem dcheckB_any (F : Nat) (es : List Ent) (A : Option Addr) (n c : Nat) (L : List (List Value)) (w : World) (hF : F < 18446744073709551616) (hm : es.length = n) (hA : Rd w A L.flatten) (hE : EntsAt w L es) (hn : n < 1048576) :
    Calls Tryz.prog 45 #[.agg #[.int .u64 F, .slice A n c]] w fun e w' => e = .returned (.int .i64 (En.bchk F es)) ∧ Below w.heap.size w w' := by
  have HA := hid (And.intro hA (And.intro hE (And.intro hm hF)))
  clear hA hE
  have hfit := fun w' => fitsR_any F n w' hF (by omega)
  obtain ⟨q, hq⟩ : ∃ q, q = decide (F + n < 18446744073709551616) := ⟨_, rfl⟩
  rw [← hq] at hfit
  have HQ := hid (And.intro hfit hq)
  by_cases h64 : 64 < n
  · have hi : (64 : Int) < (n : Int) := by omega
    have h0 : ¬ n = 0 := by omega
    have h0i : ¬ (n : Int) = 0 := by omega
    have hz := En.bchk_long (F := F) (es := es) (by omega)
    have HZ := hid hz
    clear hz hfit hq hF hm
    rcases Bool.eq_false_or_eq_true q with rfl | rfl
    all_goals
      go_enter Tryz.func45, Tryz.ntmps45
      go_wp2_with (go_at_call 77
                   refine (HQ.out.1 _).mono ?_
                   rintro e w1 ⟨rfl, rfl⟩)
      go_ret
      exact ⟨by rw [HZ.out]; rfl, below_box _ _⟩
  · have hi : ¬ (64 : Int) < (n : Int) := by omega
    have hbf := En.bfirst_short (F := F) h64
    have HM := hid hm
    obtain ⟨e0, he0⟩ : ∃ e0, e0 = En.bfirst F n := ⟨_, rfl⟩
    rw [← he0] at hbf
    have hbk : En.bchk F es = es.foldl (fun e a => En.least e (En.check a)) e0 := by rw [he0, ← hm]; rfl
    have HE0 := hid hbk
    have hcase : (n = 0 ∧ e0 = 3) ∨ (n ≠ 0 ∧ q = false ∧ e0 = 3) ∨ (n ≠ 0 ∧ q = true ∧ e0 = 0) := by
      by_cases h0 : n = 0
      · left; exact ⟨h0, by rw [hbf, if_pos (.inl h0)]⟩
      · right
        by_cases hf : F + n < 18446744073709551616
        · right; exact ⟨h0, by rw [hq]; exact decide_eq_true hf, by rw [hbf, if_neg (by omega)]⟩
        · left; exact ⟨h0, by rw [hq]; exact decide_eq_false hf, by rw [hbf, if_pos (.inr hf)]⟩
    have he03 : e0 = 0 ∨ e0 = 3 := by rcases hcase with h | h | h <;> omega
    have HC0 := hid he03
    clear hbf he0 hbk hfit hq hF hm he03
    go_enter Tryz.func45, Tryz.ntmps45
    go_upto_region 1 with fail
    have hbk := Blk.new w 47 [.int .u64 F, .slice A n c]
    refine wp_world (fun w' => Blk w' w.heap.size 47 [.int .u64 F, .slice A n c] ∧ Below w.heap.size w w') ⟨hbk, below_box _ _⟩ ?_
    clear hbk
    rintro w1 ⟨hb, hbl⟩
    have c0 : w1.cell? ⟨w.heap.size, 0, none⟩ = some (.int .u64 F) := by rw [hb.cell]; rfl
    have c1 : w1.cell? ⟨w.heap.size, 1, none⟩ = some (.slice A n c) := by rw [hb.cell]; rfl
    have HB := hid hbl
    clear hb hbl
    go_upto_region 2 with fail
    obtain ⟨p0, hp0⟩ : ∃ p0 : Bool, (p0 = true ∧ e0 = 3) ∨ (p0 = false ∧ e0 = 0) := by
      rcases HC0.out with h | h
      · exact ⟨false, .inr ⟨rfl, h⟩⟩
      · exact ⟨true, .inl ⟨rfl, h⟩⟩
    go_cut [19] (fun s19 wx => s19 = .bool p0 ∧ wx = w1)
    case first =>
      rcases hcase with ⟨rfl, rfl⟩ | ⟨h0, rfl, rfl⟩ | ⟨h0, rfl, rfl⟩
      all_goals
        rcases hp0 with ⟨rfl, h9⟩ | ⟨rfl, h9⟩
        all_goals first
          | (exfalso; omega)
          | (clear h9
             try have hb0 : ((n : Int) == 0) = false := by rw [beq_eq_false_iff_ne]; omega
             go_wp2_with (go_at_call 77
                          refine (HQ.out.1 _).mono ?_
                          rintro e w1 ⟨rfl, rfl⟩)
             go_meet
             exact ⟨rfl, rfl⟩)
    case rest =>
      obtain ⟨rfl, rfl⟩ := hcut
      go_upto_if 19 with fail
      go_cut [3] (fun s3 wx => s3 = .int .i64 e0 ∧ wx = wc)
      case first =>
        rcases hp0 with ⟨rfl, rfl⟩ | ⟨rfl, rfl⟩
        all_goals
          go_wp2_with fail
          go_meet
          exact ⟨rfl, rfl⟩
      case rest =>
      obtain ⟨rfl, rfl⟩ := hcut
      go_wp2_with fail
      go_loopg [3, 27] n (fun g s3 i wr => ∃ j e : Nat, j + g = n ∧ i = .int .i64 j ∧ s3 = .int .i64 e ∧ (e = 0 ∨ e = 3) ∧ e = (es.take j).foldl (fun e a => En.least e (En.check a)) e0 ∧ Below w.heap.size w wr)
      case atStart => exact ⟨0, e0, by omega, rfl, rfl, HC0.out, rfl, HB.out⟩
      case round =>
        obtain ⟨j, ee, hj, rfl, rfl, he4, hee, hi⟩ := hrel
        have HI := hid (And.intro hee hi)
        clear hee hi
        by_cases hlt : j < n
        · have hjes : j < es.length := by have := HM.out; omega
          obtain ⟨kind, key, val, hjj⟩ : ∃ kind key val, es[j]? = some ⟨kind, key, val⟩ := ⟨es[j].kind, es[j].key, es[j].val, by simp [hjes]⟩
          have hL := HA.out.2.1.len
          have hjl : j < L.length := by omega
          obtain ⟨g, o, rfl, hr⟩ := HA.out.1 (by
            intro e
            have := flatten_len 3 _ HA.out.2.1.three
            rw [e] at this
            simp at this; omega)
          have hp := range_part hr HA.out.2.1.three j hjl
          obtain ⟨A1, c1', A2, c2', hx, hr1, hr2, hc1, hc2⟩ := HA.out.2.1.at_ j L[j] ⟨kind, key, val⟩ (by simp [hjl]) hjj
          rw [hx] at hp
          simp only [] at hp
          have hlb := range_lt hp (by simp)
          have hp2 := range_below hp HI.out.2 hlb
          have hfold : (es.take (j + 1)).foldl (fun e a => En.least e (En.check a)) e0 = En.least ee (En.chk kind key.length val.length) := by
            rw [List.take_succ_eq_append_getElem hjes, List.foldl_append, ← HI.out.1, (List.getElem?_eq_some_iff.1 hjj).2]; rfl
          have htwo : En.chk kind key.length val.length = 2 → En.bchk F es = 2 := fun h => by
            rw [HE0.out]; exact En.fold_two es e0 (by rcases HC0.out with h | h <;> simp [h]) (.inr ⟨_, List.mem_of_getElem? hjj, h⟩)
          have hoc : ∀ v ∈ [b8 kind, .slice A1 key.length c1', .slice A2 val.length c2'], v.oneCell' = true := fun v hv => by
            simp only [List.mem_cons, List.not_mem_nil, or_false] at hv
            rcases hv with rfl | rfl | rfl <;> rfl
          have hvals := En.chk_vals kind key.length val.length
          have hcc : ∀ w', Calls Tryz.prog 43 #[.agg #[b8 kind, .slice A1 key.length c1', .slice A2 val.length c2']] w' fun e w'' => e = .returned (.int .i64 (En.chk kind key.length val.length)) ∧ Below w'.heap.size w' w'' := fun w' => doccheck_e kind A1 A2 key.length c1' val.length c2' w'
          generalize En.chk kind key.length val.length = f at hcc hvals hfold htwo
          have hp9 := (Blk.new wr 36 [b8 kind, .slice A1 key.length c1', .slice A2 val.length c2']).whole
          have HB9 := hid (gro HI.out.2 (below_box wr (.cells [b8 kind, .slice A1 key.length c1', .slice A2 val.length c2'].toArray 36)))
          have HC := hid hcc
          have HX := hid (And.intro hfold htwo)
          clear hr hr1 hr2 hx hp hc1 hc2 hL hcc hfold hlb htwo
          rcases hvals with rfl | rfl | rfl <;> rcases he4 with rfl | rfl
          all_goals
            go_wp2_with (first
              | ((with_reducible refine ld_mid 36 (.tmp 29) g (o + j * 3) _ 3 _ rfl hp2 Tryz.underlying36 rfl (by kernel_rfl) ?_ ?_ ?_ ?_); rfl; rfl; rfl)
              | ((with_reducible refine st_new 36 (.tmp 5) (.tmp 30) _ _ [b8 kind, .slice A1 key.length c1', .slice A2 val.length c2'] 3 rfl ?_ (by kernel_rfl) hoc ?_ ?_ ?_ ?_ ?_); rfl; rfl; rfl; rfl; rfl)
              | ((with_reducible refine ld_mid 36 (.tmp 5) wr.heap.size 0 _ 3 _ rfl hp9 Tryz.underlying36 rfl (by kernel_rfl) ?_ ?_ ?_ ?_); rfl; rfl; rfl)
              | (go_at_call 43
                 refine (HC.out _).mono ?_
                 rintro e7 w7 ⟨rfl, hk⟩
                 have H7 := hid (gro HB9.out hk); clear hk))
            first
              | (go_roundg (gk - 1)
                 case measure => omega
                 case rel => exact ⟨j + 1, _, by omega, by go_num, rfl, by decide, HX.out.1.symm, H7.out⟩)
              | (go_ret
                 exact ⟨by rw [show En.bchk F es = 2 from by have h := HX.out.2; simpa using h]; rfl, H7.out⟩)
        · obtain rfl : j = n := by omega
          have hb := HI.out.1
          rw [List.take_of_length_le (by rw [HM.out]; exact Nat.le_refl _), ← HE0.out] at hb
          have HZ := hid hb
          clear hb
          go_wp2_with fail
          go_ret
          exact ⟨by first | rfl | (rw [HZ.out]; rfl), HI.out.2⟩
end Go.Proofs.YtpnakfeafekneaaGreatDoor

namespace Go.Proofs.YtpnakfeafekneaaGreatDoor
open Go.RowKit
def Bl.err (Fs : List Nat) (bs : List (List Ent)) (i : Nat) : Nat := if En.bchk (Fs.getD i 0) (bs.getD i []) ≠ 0 then En.bchk (Fs.getD i 0) (bs.getD i []) else if Fs.getD i 0 ≠ (bs.take i).flatten.length then 3 else 0
def Szs (bs : List (List Ent)) (k : Nat) : List Value := (List.range (k + 1)).map fun i => .int .u64 ((bs.take i).flatten.length : Nat)
theorem Szs_succ (bs : List (List Ent)) (k : Nat) : Szs bs (k + 1) = Szs bs k ++ [.int .u64 ((bs.take (k + 1)).flatten.length : Nat)] := by
  unfold Szs; rw [List.range_succ, List.map_append]; rfl
theorem Szs_zero (bs : List (List Ent)) : Szs bs 0 = [.int .u64 0] := by simp [Szs]
theorem info_u64 : (Tryz.prog.info? 38).map (fun i => (i.zero, i.size, i.bytes)) = some (some (.int .u64 0), 1, 8) := by kernel_rfl
theorem Bl.at_ (Fs : List Nat) (bs : List (List Ent)) (j : Nat) (hj : j < bs.length) (hF : j < Fs.length) : Bl.err Fs bs j = if En.bchk Fs[j] bs[j] ≠ 0 then En.bchk Fs[j] bs[j] else if Fs[j] ≠ (bs.take j).flatten.length then 3 else 0 := by
  unfold Bl.err
  rw [show Fs.getD j 0 = Fs[j] from by simp [hF], show bs.getD j [] = bs[j] from by simp [hj]]
attribute [-go_sem] Instr.build in
set_option maxHeartbeats 8000000 in
set_option maxRecDepth 100000 in
theorem docbuild_any (n : Nat) (h1 : 1 ≤ n) (h2 : n ≤ 32) (bs : List (List Ent)) (Fs : List Nat) (A : Option Addr) (m c : Nat) (X : List (List Value)) (w : World) (i0 : Nat) (hm : bs.length = m) (hA : Rd w A X.flatten) (hX : BatsAt w X Fs bs) (hFs : ∀ F ∈ Fs, F < 18446744073709551616) (hgood : ∀ i, i < i0 → Bl.err Fs bs i = 0) (hi0 : i0 ≤ m) (hbad : i0 < m → Bl.err Fs bs i0 ≠ 0) (hb : ∀ b ∈ bs, ∀ e ∈ b, e.key.length ≤ 140737488355328 ∧ e.val.length ≤ 140737488355328) (hn : m + 2 < 1048576) (htot : bs.flatten.length < 1048576) :
    Calls Tryz.prog 20 #[.int .i64 n, .slice A m c] w fun e w' => Below w.heap.size w w' ∧ ((i0 < m ∧ e = .returned (.tuple #[.slice none 0 0, .slice none 0 0, .int .i64 (Bl.err Fs bs i0)])) ∨ (i0 = m ∧ ∃ Al cl As cs L, e = .returned (.tuple #[.slice Al bs.flatten.length cl, .slice As (m + 1) cs, .int .i64 0]) ∧ Rd w' Al L.flatten ∧ EntsTy w' L bs.flatten ∧ bs.flatten.length ≤ cl ∧ Rd w' As (Szs bs m))) := by
  have HA := hid (And.intro hA (And.intro hX (And.intro hFs (And.intro hgood (And.intro hbad (And.intro hb (And.intro hm (And.intro htot (And.intro h1 h2)))))))))
  clear hA hX hFs hgood hbad hb hm htot h1 h2
  have ho0 := own_lit w w.heap.size 38 1 [.int .u64 0] rfl (Nat.le_refl _)
  have HO0 := hid (And.intro ho0 (below_box w (.cells [Value.int .u64 0].toArray 38)))
  clear ho0
  go_enter Tryz.func20, Tryz.ntmps20
  go_wp2_with (go_at_call 14
               refine (rwidth_raw n w).mono ?_
               rintro e w3 ⟨rfl, rfl⟩
               rw [if_pos (show 1 ≤ (n : Int) ∧ (n : Int) ≤ 32 by have := HA.out.2.2.2.2.2.2.2.2; omega)])
  go_loopg [7, 8, 18] m (fun g s7 s8 i wr => ∃ (j N : Nat) (Al : Option Addr) (cl : Nat) (As : Option Addr) (cs : Nat) (L : List (List Value)), j + g = m ∧ j ≤ i0 ∧ i = .int .i64 j ∧ s7 = .slice Al N cl ∧ s8 = .slice As (j + 1) cs ∧ N = (bs.take j).flatten.length ∧ wr.ownsRow w.heap.size 36 3 (.slice Al N cl) N L.flatten ∧ EntsTy wr L (bs.take j).flatten ∧ wr.ownsRow w.heap.size 38 1 (.slice As (j + 1) cs) (j + 1) (Szs bs j) ∧ Below w.heap.size w wr)
  case atStart => exact ⟨0, 0, none, 0, _, 1, [], by omega, Nat.zero_le _, rfl, rfl, rfl, by simp, World.ownsRow_nil _ _ _ _, ⟨rfl, fun i x p h => by simp at h⟩, by rw [Szs_zero]; exact HO0.out.1, HO0.out.2⟩
  case round =>
    clear HO0
    obtain ⟨j, N, Al, cl, As, cs, L, hj, hji, rfl, rfl, rfl, hN, hol, hel, hos, hbl⟩ := hrel
    have HR := hid (And.intro hol (And.intro hel (And.intro hos (And.intro hbl hN))))
    clear hol hel hos hbl hN
    by_cases hlt : j < m
    · have hjb : j < bs.length := by rw [HA.out.2.2.2.2.2.2.1]; exact hlt
      have hl1 := HA.out.2.1.len
      have hl2 := HA.out.2.1.lenF
      have hjX : j < X.length := by omega
      have hjF : j < Fs.length := by omega
      obtain ⟨g, o, rfl, hr⟩ := HA.out.1 (by
        intro e
        have := flatten_len 2 _ HA.out.2.1.all2
        rw [e] at this
        simp at this; omega)
      have hp := range_part hr HA.out.2.1.all2 j hjX
      obtain ⟨A1, c1, L1, hx, hr1, he1⟩ := HA.out.2.1.at_ j X[j] Fs[j] bs[j] (by simp [hjX]) (by simp [hjF]) (by simp [hjb])
      rw [hx] at hp
      have hlb := range_lt hp (by simp)
      have hp2 := range_below hp HR.out.2.2.2.1 hlb
      have hFj := HA.out.2.2.1 Fs[j] (List.getElem_mem hjF)
      have hbj := HA.out.2.2.2.2.2.1 bs[j] (List.getElem_mem hjb)
      have herr := Bl.at_ Fs bs j hjb hjF
      rw [← HR.out.2.2.2.2] at herr
      have hnx : (bs.take (j + 1)).flatten = (bs.take j).flatten ++ bs[j] := by rw [List.take_succ_eq_append_getElem hjb, List.flatten_append]; simp
      have hsz := Szs_succ bs j
      have htl := flatten_take_le bs (j + 1)
      rw [hnx, List.length_append, ← HR.out.2.2.2.2] at htl
      have hnl : (bs.take (j + 1)).flatten.length = N + bs[j].length := by rw [hnx, List.length_append, ← HR.out.2.2.2.2]
      rw [hnl] at hsz
      have htt := HA.out.2.2.2.2.2.2.2.1
      obtain ⟨F, hFe⟩ : ∃ F, F = Fs[j] := ⟨_, rfl⟩
      obtain ⟨b, hbe⟩ : ∃ b, b = bs[j] := ⟨_, rfl⟩
      obtain ⟨M, hM⟩ : ∃ M, M = b.length := ⟨_, rfl⟩
      rw [← hFe] at hp2 hFj herr
      rw [← hbe] at hp2 hbj herr he1 htl hnx hsz
      rw [← hM] at hp2 htl hsz
      have hM20 : N + M < 1048576 := by omega
      have hch : ∀ w', Below w.heap.size w w' → Calls Tryz.prog 45 #[.agg #[.int .u64 F, .slice A1 M c1]] w' fun e w'' => e = .returned (.int .i64 (En.bchk F b)) ∧ Below w'.heap.size w' w'' := fun w' h => by
        rw [hM]; exact dcheckB_any F b A1 b.length c1 L1 w' hFj rfl (hr1.grown h) (he1.grown h) (by omega)
      have htw : ∀ w', Below w.heap.size w w' → Calls Tryz.prog 10 #[.slice A1 M c1] w' fun e w'' => ∃ Ar cr L', e = .returned (.slice Ar M cr) ∧ Below w'.heap.size w' w'' ∧ w''.ownsRow w'.heap.size 36 3 (.slice Ar M cr) M L'.flatten ∧ EntsTy w'' L' b := fun w' h => by
        rw [hM]; exact twinsO_any b A1 c1 L1 w' (hr1.grown h) (he1.grown h) (by omega) hbj
      obtain ⟨z, hz⟩ : ∃ z, z = En.bchk F b := ⟨_, rfl⟩
      rw [← hz] at hch herr
      have hoc : ∀ v ∈ [Value.int .u64 F, .slice A1 M c1], v.oneCell' = true := fun v hv => by
        simp only [List.mem_cons, List.not_mem_nil, or_false] at hv
        rcases hv with rfl | rfl <;> rfl
      have hB9 := Blk.new wr 47 [.int .u64 F, .slice A1 M c1]
      have hp9 := hB9.whole
      have hwN : IntKind.u64.wrap (N : Int) = (N : Int) := by rw [IntKind.wrap_u64]; omega
      obtain ⟨T, hT⟩ : ∃ T, T = N + M := ⟨_, rfl⟩
      have hwT : IntKind.u64.wrap (T : Int) = (T : Int) := by rw [IntKind.wrap_u64]; omega
      rw [← hT] at hsz
      have HTT := hid hT
      have hou : ∀ u ∈ [Value.int .u64 T], u.oneCell' = true := fun u hu => by rw [List.mem_singleton] at hu; rw [hu]; rfl
      clear hT
      have HC := hid (And.intro hch (And.intro htw (And.intro hnx (And.intro hsz (And.intro hB9 (And.intro (below_box wr (.cells [Value.int .u64 F, .slice A1 M c1].toArray 47)) (And.intro herr hM)))))))
      clear hch htw hnx hsz hB9 htl hr hr1 he1 hx hp hlb hFe hbe hM hl1 hl2 hFj hbj herr hz hnl htt
      by_cases hz0 : z = 0
      · subst hz0
        by_cases hFN : F = N
        · subst hFN
          have hjlt : j < i0 := by
            rcases Nat.lt_or_ge j i0 with h | h
            · exact h
            · have hji0 : j = i0 := by omega
              have := HA.out.2.2.2.2.1 (by omega)
              rw [← hji0, HC.out.2.2.2.2.2.2.1] at this
              simp at this
          have h63 : F + M ≤ maxLen := by simp only [maxLen]; omega
          have hby : (F + M) * 56 ≤ 140737488355328 := by omega
          have h63' : j + 1 + 1 ≤ maxLen := by simp only [maxLen]; omega
          have hby' : (j + 1 + 1) * 8 ≤ 140737488355328 := by omega
          go_wp2_with (first
            | ((with_reducible refine ld_mid 47 (.tmp 20) g (o + j * 2) _ 2 _ rfl hp2 Tryz.underlying47 rfl (by kernel_rfl) ?_ ?_ ?_ ?_); rfl; rfl; rfl)
            | ((with_reducible refine st_new 47 (.tmp 10) (.tmp 21) _ _ [.int .u64 F, .slice A1 M c1] 2 rfl ?_ (by kernel_rfl) hoc ?_ ?_ ?_ ?_ ?_); rfl; rfl; rfl; rfl; rfl)
            | ((with_reducible refine ld_mid 47 (.tmp 10) wr.heap.size 0 _ 2 _ rfl hp9 Tryz.underlying47 rfl (by kernel_rfl) ?_ ?_ ?_ ?_); rfl; rfl; rfl)
            | (go_at_call 45
               refine (HC.out.1 _ (gro HR.out.2.2.2.1 HC.out.2.2.2.2.2.1)).mono ?_
               rintro e w7 ⟨rfl, hb7⟩
               have hB7 := HC.out.2.2.2.2.1.grown hb7
               have k0 : w7.cell? ⟨wr.heap.size, 0, none⟩ = some (.int .u64 F) := (by rw [hB7.cell]; rfl)
               have k1 : w7.cell? ⟨wr.heap.size, 1, none⟩ = some (.slice A1 M c1) := (by rw [hB7.cell]; rfl)
               have H7 := hid (gro HC.out.2.2.2.2.2.1 hb7)
               clear hb7 hB7)
            | (go_at_call 10
               refine (HC.out.2.1 _ (gro HR.out.2.2.2.1 H7.out)).mono ?_
               rintro e w8 ⟨A5, c5, L5, rfl, hb8, ho8, he8⟩
               have hb78 := gro H7.out hb8
               obtain ⟨A6, c6, e6, hr8, -⟩ := rd_own ho8
               cases e6
               have hlen8 : L5.flatten.length = M * 3 := ho8.1
               have hoc8 := he8.oc
               have own8 := own_grown HR.out.1 hb78
               have hbs8 := (gro HR.out.2.2.2.1 hb78).size
               have H8 := hid (And.intro hb78 (And.intro own8 (And.intro hr8 he8)))
               clear hb8 ho8 he8 hb78 own8 hr8)
            | ((with_reducible refine ap_own (.tmp 37) (.tmp 40) 22 Tryz.underlying22 info_entry rfl (by decide) H8.out.2.1 M c5 hlen8 H8.out.2.2.1 hoc8 h63 hby hbs8 ?_ ?_ ?_ ?_ ?_); rfl; rfl; rfl; rfl
               intro v9 w9 hn1 hn2 hn3 hn4
               rw [← HTT.out] at hn1
               obtain ⟨A9, c9, rfl, hr9, hc9⟩ := rd_own hn1
               have p9 := But.append H8.out.2.1 hn2
               have hb9 := grownBy_below H8.out.2.1 (gro HR.out.2.2.2.1 H8.out.1) hbs8 hn2
               have he9 := ((HR.out.2.1.grown H8.out.1).append H8.out.2.2.2).but (by decide) p9
               have hs9 := Stay.own p9 (own_grown HR.out.2.2.1 H8.out.1) (by decide)
               have hbb := below_box w9 (.cells [Value.int .u64 T].toArray 38)
               have hr10 := Rd.of _ (Blk.new w9 38 [.int .u64 T]).whole
               have hs10 := own_grown hs9 hbb
               have hbs10 := (gro hb9 hbb).size
               have H9 := hid (And.intro (own_grown hn1 hbb) (And.intro (he9.grown hbb) (And.intro hs10 (And.intro hr10 (gro hb9 hbb)))))
               clear hn1 hn2 hn3 hn4 hr9 hc9 p9 hb9 he9 hs9 hbb hr10 hs10)
            | ((with_reducible refine ap_own (.tmp 42) (.tmp 46) 52 Tryz.underlying52 info_u64 rfl (by decide) H9.out.2.2.1 1 1 rfl H9.out.2.2.2.1 hou h63' hby' hbs10 ?_ ?_ ?_ ?_ ?_); rfl; rfl; rfl; rfl
               intro v11 w11 hn1 hn2 hn3 hn4
               obtain ⟨A11, c11, rfl, hr11, hc11⟩ := rd_own hn1
               have p11 := But.append H9.out.2.2.1 hn2
               have hb11 := grownBy_below H9.out.2.2.1 H9.out.2.2.2.2 hbs10 hn2
               have he11 := H9.out.2.1.but (by decide) p11
               have hl11 := Stay.own p11 H9.out.1 (by decide)
               have H11 := hid (And.intro hl11 (And.intro he11 (And.intro hn1 hb11)))
               clear hn1 hn2 hn3 hn4 hr11 hc11 p11 hb11 he11 hl11))
          go_roundg (gk - 1)
          case measure => omega
          case rel =>
            refine ⟨j + 1, T, A9, c9, A11, c11, L ++ L5, by omega, by omega, by go_num, rfl, rfl, ?_, ?_, ?_, ?_, H11.out.2.2.2⟩
            · rw [HTT.out, HC.out.2.2.1, List.length_append, ← HR.out.2.2.2.2, HC.out.2.2.2.2.2.2.2]
            · rw [List.flatten_append]; exact H11.out.1
            · rw [HC.out.2.2.1]; exact H11.out.2.1
            · rw [HC.out.2.2.2.1]; exact H11.out.2.2.1
        · have hji0 : j = i0 := by
            rcases Nat.lt_or_ge j i0 with h | h
            · have := HA.out.2.2.2.1 j h
              rw [HC.out.2.2.2.2.2.2.1] at this
              simp [hFN] at this
            · omega
          have hev : Bl.err Fs bs i0 = 3 := by rw [← hji0, HC.out.2.2.2.2.2.2.1]; simp [hFN]
          have HV := hid (And.intro hji0 hev)
          have hFNi : ¬ (F : Int) = (N : Int) := by omega
          clear hji0 hev hji
          go_wp2_with (first
            | ((with_reducible refine ld_mid 47 (.tmp 20) g (o + j * 2) _ 2 _ rfl hp2 Tryz.underlying47 rfl (by kernel_rfl) ?_ ?_ ?_ ?_); rfl; rfl; rfl)
            | ((with_reducible refine st_new 47 (.tmp 10) (.tmp 21) _ _ [.int .u64 F, .slice A1 M c1] 2 rfl ?_ (by kernel_rfl) hoc ?_ ?_ ?_ ?_ ?_); rfl; rfl; rfl; rfl; rfl)
            | ((with_reducible refine ld_mid 47 (.tmp 10) wr.heap.size 0 _ 2 _ rfl hp9 Tryz.underlying47 rfl (by kernel_rfl) ?_ ?_ ?_ ?_); rfl; rfl; rfl)
            | (go_at_call 45
               refine (HC.out.1 _ (gro HR.out.2.2.2.1 HC.out.2.2.2.2.2.1)).mono ?_
               rintro e w7 ⟨rfl, hb7⟩
               have hB7 := HC.out.2.2.2.2.1.grown hb7
               have k0 : w7.cell? ⟨wr.heap.size, 0, none⟩ = some (.int .u64 F) := (by rw [hB7.cell]; rfl)
               have k1 : w7.cell? ⟨wr.heap.size, 1, none⟩ = some (.slice A1 M c1) := (by rw [hB7.cell]; rfl)
               have H7 := hid (gro HC.out.2.2.2.2.2.1 hb7)
               clear hb7 hB7))
          go_ret3
          exact ⟨gro HR.out.2.2.2.1 H7.out, .inl ⟨by have := HV.out.1; omega, by rw [HV.out.2]; rfl⟩⟩
      · have hji0 : j = i0 := by
          rcases Nat.lt_or_ge j i0 with h | h
          · have := HA.out.2.2.2.1 j h
            rw [HC.out.2.2.2.2.2.2.1, if_pos hz0] at this
            exact absurd this hz0
          · omega
        have hev : Bl.err Fs bs i0 = z := by rw [← hji0, HC.out.2.2.2.2.2.2.1, if_pos hz0]
        have HV := hid (And.intro hji0 hev)
        have hzi : ¬ (z : Int) = 0 := by omega
        clear hji0 hev hji
        go_wp2_with (first
          | ((with_reducible refine ld_mid 47 (.tmp 20) g (o + j * 2) _ 2 _ rfl hp2 Tryz.underlying47 rfl (by kernel_rfl) ?_ ?_ ?_ ?_); rfl; rfl; rfl)
          | ((with_reducible refine st_new 47 (.tmp 10) (.tmp 21) _ _ [.int .u64 F, .slice A1 M c1] 2 rfl ?_ (by kernel_rfl) hoc ?_ ?_ ?_ ?_ ?_); rfl; rfl; rfl; rfl; rfl)
          | ((with_reducible refine ld_mid 47 (.tmp 10) wr.heap.size 0 _ 2 _ rfl hp9 Tryz.underlying47 rfl (by kernel_rfl) ?_ ?_ ?_ ?_); rfl; rfl; rfl)
          | (go_at_call 45
             refine (HC.out.1 _ (gro HR.out.2.2.2.1 HC.out.2.2.2.2.2.1)).mono ?_
             rintro e w7 ⟨rfl, hb7⟩
             have H7 := hid (gro HC.out.2.2.2.2.2.1 hb7)
             clear hb7))
        go_ret3
        exact ⟨gro HR.out.2.2.2.1 H7.out, .inl ⟨by have := HV.out.1; omega, by rw [HV.out.2]; rfl⟩⟩
    · obtain rfl : j = m := by omega
      have hi0m : i0 = j := by omega
      have hN := HR.out.2.2.2.2
      have hel := HR.out.2.1
      rw [List.take_of_length_le (by rw [HA.out.2.2.2.2.2.2.1]; exact Nat.le_refl _)] at hN hel
      have HF := hid (And.intro hN (And.intro hel hi0m))
      clear hN hel hi0m
      go_wp2_with fail
      go_ret3
      obtain ⟨A6, c6, e6, hr6, hc6⟩ := rd_own HR.out.1
      cases e6
      obtain ⟨A7, c7, e7, hr7, -⟩ := rd_own HR.out.2.2.1
      cases e7
      exact ⟨HR.out.2.2.2.1, .inr ⟨HF.out.2.2, Al, cl, As, cs, L, by rw [← HF.out.1]; rfl, hr6, HF.out.2.1, by rw [← HF.out.1]; exact hc6, hr7⟩⟩
end Go.Proofs.YtpnakfeafekneaaGreatDoor

namespace Go.Proofs.YtpnakfeafekneaaGreatDoor
open Go.RowKit
end Go.Proofs.YtpnakfeafekneaaGreatDoor

namespace Go.Proofs.YtpnakfeafekneaaGreatDoor
open Go.RowKit
end Go.Proofs.YtpnakfeafekneaaGreatDoor
