/- Part 15 of this proof: E4, T0, R2. -/
import Derived.Deep.DeepCutAuto
import Derived.Test.YtpnakfeafekneaaGreatDoorG02
import Derived.Test.YtpnakfeafekneaaGreatDoorG06
import Derived.Test.YtpnakfeafekneaaGreatDoorG14
set_option linter.unusedSimpArgs false
set_option linter.unusedVariables false
namespace Go.Proofs.YtpnakfeafekneaaGreatDoor
open Go.RowKit
def En.bfirst (F n : Nat) : Nat := if n = 0 ∨ ¬ F + n < 18446744073709551616 then En.least (if 64 < n then 2 else 0) 3 else (if 64 < n then 2 else 0)
def En.bchk (F : Nat) (es : List Ent) : Nat := es.foldl (fun e a => En.least e (En.check a)) (En.bfirst F es.length)
theorem En.chk_lt (k : UInt8) (a b : Nat) : En.chk k a b < 4 := by unfold En.chk; split <;> (try split) <;> omega
theorem En.least_lt {a b : Nat} (ha : a < 4) (hb : b < 4) : En.least a b < 4 := by unfold En.least; split <;> omega
theorem En.bfirst_lt (F n : Nat) : En.bfirst F n < 4 := by
  unfold En.bfirst
  have : (if 64 < n then 2 else 0) < 4 := by split <;> omega
  split
  · exact En.least_lt this (by omega)
  · exact this
theorem En.least_zero {a b : Nat} (h : En.least a b = 0) : a = 0 ∧ b = 0 := by
  unfold En.least at h
  split at h
  · rename_i h1; rcases h1 with h1 | ⟨h1, _⟩ <;> omega
  · rename_i h1; exact absurd (.inl h) h1
theorem En.fold_zero : ∀ (es : List Ent) (e : Nat), es.foldl (fun e a => En.least e (En.check a)) e = 0 → e = 0 ∧ ∀ a ∈ es, En.check a = 0
  | [], e, h => ⟨h, by simp⟩
  | a :: es, e, h => by
    obtain ⟨h1, h2⟩ := En.fold_zero es _ h
    obtain ⟨h3, h4⟩ := En.least_zero h1
    exact ⟨h3, by intro b hb; rcases List.mem_cons.1 hb with rfl | hb; exact h4; exact h2 b hb⟩
theorem En.bchk_zero {F : Nat} {es : List Ent} (h : En.bchk F es = 0) : 0 < es.length ∧ es.length ≤ 64 ∧ F + es.length < 18446744073709551616 ∧ ∀ a ∈ es, En.check a = 0 := by
  obtain ⟨h1, h2⟩ := En.fold_zero es _ h
  unfold En.bfirst at h1
  split at h1
  · obtain ⟨_, h3⟩ := En.least_zero h1; cases h3
  · rename_i h3
    split at h1
    · cases h1
    · exact ⟨by omega, by omega, by omega, h2⟩
theorem En.flat_len : ∀ (es : List Ent), (∀ a ∈ es, En.check a = 0) → (es.flatMap En.bytes).length ≤ 400 * es.length
  | [], _ => by simp
  | a :: es, h => by
    rw [List.flatMap_cons, List.length_append, List.length_cons]
    have h1 := En.bytes_len a (h a (by simp))
    have h2 := En.flat_len es (fun b hb => h b (by simp [hb]))
    omega
theorem ebatch_any (F : Nat) (hF : F < 18446744073709551616) (A : Option Addr) (c : Nat) (L : List (List Value)) (es : List Ent) (w : World) (hA : Rd w A L.flatten) (hE : EntsAt w L es) (hn : es.length < 1099511627776) :
    Calls Tryz.prog 68 #[.agg #[.int .u64 F, .slice A es.length c]] w fun e w' => ∃ v, e = .returned (.tuple #[v, .int .i64 (En.bchk F es)]) ∧ Below w.heap.size w w' := by
  have hbk : Blk (w.alloc (.cells #[.int .u64 F, .slice A es.length c] 47)) w.heap.size 47 [.int .u64 F, .slice A es.length c] := Blk.new w _ _
  have HE := hid (And.intro hA hE)
  clear hA hE
  go_enter Tryz.func68, Tryz.ntmps68
  go_upto_region 1 with fail
  refine wp_world (fun w' => Blk w' w.heap.size 47 [.int .u64 F, .slice A es.length c] ∧ Below w.heap.size w w') ⟨hbk, below_box _ _⟩ ?_
  clear hbk
  rintro w1 ⟨hb, hbl⟩
  have c0 : w1.cell? ⟨w.heap.size, 0, none⟩ = some (.int .u64 F) := by rw [hb.cell]; rfl
  have c1 : w1.cell? ⟨w.heap.size, 1, none⟩ = some (.slice A es.length c) := by rw [hb.cell]; rfl
  have HB := hid (And.intro hb hbl)
  clear hb hbl
  go_upto_if 13 with (fail)
  go_cut [4] (fun s4 wx => ∃ e0 : Nat, s4 = .int .i64 e0 ∧ wx = w1 ∧ e0 = if 64 < es.length then 2 else 0)
  case first =>
    by_cases h : 64 < es.length
    · have i1 : (64 : Int) < (es.length : Int) := by omega
      have HQ := hid h
      clear h
      go_wp2_with fail
      go_meet
      exact ⟨2, rfl, rfl, by rw [if_pos HQ.out]⟩
    · have i1 : ¬ (64 : Int) < (es.length : Int) := by omega
      have HQ := hid h
      clear h
      go_wp2_with fail
      go_meet
      exact ⟨0, rfl, rfl, by rw [if_neg HQ.out]⟩
  case rest =>
    obtain ⟨e0, rfl, rfl, he0⟩ := hcut
    have h0lt : e0 < 4 := by rw [he0]; split <;> omega
    have HE0 := hid he0
    clear he0
    go_upto_region 4 with (fail)
    go_cut [26] (fun s26 wx => s26 = .bool (decide (es.length = 0 ∨ ¬ F + es.length < 18446744073709551616)) ∧ wx = wc)
    case first =>
      by_cases hn0 : es.length = 0
      · have HD := hid (show decide (es.length = 0 ∨ ¬ F + es.length < 18446744073709551616) = true from decide_eq_true (.inl hn0))
        have i1 : ((es.length : Int) == 0) = true := by rw [hn0]; rfl
        clear hn0
        go_wp2_with fail
        go_meet
        exact ⟨by rw [HD.out], rfl⟩
      · have i1 : ((es.length : Int) == 0) = false := by rw [beq_eq_false_iff_ne]; omega
        by_cases hf : F + es.length < 18446744073709551616
        · have HD := hid (And.intro (decide_eq_true hf) (show decide (es.length = 0 ∨ ¬ F + es.length < 18446744073709551616) = false from decide_eq_false (by omega)))
          clear hn0 hf
          go_wp2_with (go_at_call 108; refine (fits_e F es.length hF (by omega) _).mono ?_; rw [HD.out.1]; rintro e w2 ⟨rfl, rfl⟩)
          go_meet
          exact ⟨by rw [HD.out.2], rfl⟩
        · have HD := hid (And.intro (decide_eq_false hf) (show decide (es.length = 0 ∨ ¬ F + es.length < 18446744073709551616) = true from decide_eq_true (.inr hf)))
          clear hn0 hf
          go_wp2_with (go_at_call 108; refine (fits_e F es.length hF (by omega) _).mono ?_; rw [HD.out.1]; rintro e w2 ⟨rfl, rfl⟩)
          go_meet
          exact ⟨by rw [HD.out.2], rfl⟩
    case rest =>
      obtain ⟨rfl, rfl⟩ := hcut
      rename World => wd
      go_upto_if 26 with (fail)
      go_cut [4] (fun s4 wx => ∃ e1 : Nat, s4 = .int .i64 e1 ∧ wx = wd ∧ e1 = En.bfirst F es.length)
      case first =>
        by_cases hq : es.length = 0 ∨ ¬ F + es.length < 18446744073709551616
        · have hd := decide_eq_true hq
          have HD := hid hq
          clear hq
          go_wp2_with (go_at_call 109; refine (least_e e0 3 (by omega) (by omega) _).mono ?_; rintro e w2 ⟨rfl, rfl⟩)
          go_meet
          exact ⟨_, rfl, rfl, by unfold En.bfirst; rw [if_pos HD.out, HE0.out]⟩
        · have hd := decide_eq_false hq
          have HD := hid hq
          clear hq
          go_wp2_with fail
          go_meet
          exact ⟨_, rfl, rfl, by unfold En.bfirst; rw [if_neg HD.out, HE0.out]⟩
      case rest =>
        obtain ⟨e1, rfl, rfl, he1⟩ := hcut
        rename World => wd
        have h1lt : e1 < 4 := by rw [he1]; exact En.bfirst_lt _ _
        have HE1 := hid he1
        clear he1 HE0 h0lt e0
        go_wp2_with fail
        go_loopg [4, 32] es.length (fun g s4 i wr => ∃ j e : Nat, j + g = es.length ∧ i = .int .i64 j ∧ s4 = .int .i64 e ∧ e < 4 ∧ e = (es.take j).foldl (fun e a => En.least e (En.check a)) e1 ∧ Below wd.heap.size wd wr)
        case atStart => exact ⟨0, e1, by omega, rfl, rfl, h1lt, rfl, Below.refl _ _⟩
        case round =>
          obtain ⟨j, ee, hj, rfl, rfl, helt, hee, hi⟩ := hrel
          have HI := hid (And.intro hee hi)
          clear hee hi
          by_cases hlt : j < es.length
          · obtain ⟨kind, key, val, hjj⟩ : ∃ kind key val, es[j]? = some ⟨kind, key, val⟩ := ⟨es[j].kind, es[j].key, es[j].val, by simp [hlt]⟩
            have hL := HE.out.2.len
            have hjl : j < L.length := by omega
            obtain ⟨g, o, rfl, hr⟩ := HE.out.1 (by
              intro e
              have := flatten_len 3 _ HE.out.2.three
              rw [e] at this
              simp at this; omega)
            have hp := range_part hr HE.out.2.three j hjl
            obtain ⟨A1, c1', A2, c2', hx, hr1, hr2, hc1, hc2⟩ := HE.out.2.at_ j L[j] ⟨kind, key, val⟩ (by simp [hjl]) hjj
            rw [hx] at hp
            simp only [] at hp
            have hlb := range_lt hp (by simp)
            have hp2 := range_below hp (HB.out.2.trans (HI.out.2.mono HB.out.2.size)) hlb
            have hfold : (es.take (j + 1)).foldl (fun e a => En.least e (En.check a)) e1 = En.least ee (En.chk kind key.length val.length) := by
              rw [List.take_succ_eq_append_getElem hlt, List.foldl_append, ← HI.out.1, (List.getElem?_eq_some_iff.1 hjj).2]; rfl
            have hclt := En.chk_lt kind key.length val.length
            have HX := hid hfold
            clear hr hr1 hr2 hx hp hfold hc1 hc2 hL
            go_wp2_with (first
              | ((with_reducible refine ld_mid 36 (.tmp 34) g (o + j * 3) _ 3 _ rfl hp2 Tryz.underlying36 rfl (by kernel_rfl) ?_ ?_ ?_ ?_); rfl; rfl; rfl)
              | (go_at_call 39
                 refine (check_e kind A1 A2 key.length c1' val.length c2' _).mono ?_
                 rintro e7 w7 ⟨rfl, hk⟩
                 have HC := hid hk; clear hk)
              | (go_at_call 109
                 refine (least_e ee (En.chk kind key.length val.length) (by omega) (by omega) _).mono ?_
                 rintro e7 w8 ⟨rfl, rfl⟩))
            go_roundg (gk - 1)
            case measure => omega
            case rel => exact ⟨j + 1, _, by omega, by go_num, rfl, En.least_lt helt hclt, HX.out.symm, (HI.out.2.alloc HI.out.2.size _).trans (HC.out.mono (by simp; have := HI.out.2.size; omega))⟩
          · obtain rfl : j = es.length := by omega
            have hb := HI.out.1
            rw [List.take_length, HE1.out] at hb
            have hbf : ee = En.bchk F es := hb
            subst hbf
            clear hb
            by_cases hz : En.bchk F es = 0
            · have hfacts := En.bchk_zero hz
              have hn0 : (0 : Int) ≤ (es.length : Int) ∧ (es.length : Int) < 18446744073709551616 := by omega
              have hZ : ((En.bchk F es : Nat) : Int) = 0 := by omega
              have HZ0 := hid (And.intro hz (And.intro hfacts hZ))
              rw [hz]
              clear hz hfacts hZ helt
              have hbw : Blk wr w.heap.size 47 [.int .u64 F, .slice A es.length c] := HB.out.1.grown HI.out.2
              have hb0 : Below w.heap.size w wr := gro HB.out.2 HI.out.2
              have hul1 := Wi.uvar_length 9 F (by omega)
              have hul2 := Wi.uvar_length 9 es.length (by omega)
              have HW := hid (And.intro hbw hb0)
              clear hbw hb0
              rename World => wq
              have c20 : (wq.alloc (.cells #[.slice none 0 0] 184)).cell? ⟨w.heap.size, 0, none⟩ = some (.int .u64 F) := by
                rw [(HW.out.1.alloc _).cell]; rfl
              have hlenF : (Wi.uvar F).length < 17592186044416 := by omega
              go_wp2_with (first
                | (go_at_call 110
                   refine (uvar_w es.length HV.out (by omega) (by simp only [List.nil_append]; exact hlenF)).mono ?_
                   rintro e w4 ⟨rfl, h⟩
                   have hb4 := (HW.out.1.grown h.bl)
                   have c41 : w4.cell? ⟨w.heap.size, 1, none⟩ = some (.slice A es.length c) := by rw [hb4.cell]; rfl
                   have HU := hid (And.intro h hb4)
                   clear h hb4)
                | (go_at_call 110
                   refine (uvar_w F (Wr.new wq) (by omega) (by simp)).mono ?_
                   rintro e w3 ⟨rfl, h⟩
                   have hb3 := (HW.out.1.grown h.bl)
                   have c31 : w3.cell? ⟨w.heap.size, 1, none⟩ = some (.slice A es.length c) := by rw [hb3.cell]; rfl
                   have HV := hid h
                   clear h hb3))
              have hwr := HU.out.1.weaken HW.out.2
              rw [show [] ++ Wi.uvar F ++ Wi.uvar es.length = Wi.uvar F ++ Wi.uvar es.length ++ (es.take 0).flatMap En.bytes by simp] at hwr
              have HWR := hid hwr
              clear hwr
              go_loopg [55] es.length (fun g i wr => ∃ j : Nat, j + g = es.length ∧ i = .int .i64 j ∧ Wr w.heap.size wq.heap.size w wr (Wi.uvar F ++ Wi.uvar es.length ++ (es.take j).flatMap En.bytes))
              case atStart => exact ⟨0, by omega, rfl, HWR.out⟩
              case round =>
                clear HWR
                obtain ⟨j, hj, rfl, hi⟩ := hrel
                have HI := hid hi
                clear hi
                by_cases hlt : j < es.length
                · obtain ⟨e, hjj⟩ : ∃ e, es[j]? = some e := ⟨es[j], by simp [hlt]⟩
                  have hL := HE.out.2.len
                  have hjl : j < L.length := by omega
                  obtain ⟨g, o, rfl, hr⟩ := HE.out.1 (by
                    intro e
                    have := flatten_len 3 _ HE.out.2.three
                    rw [e] at this
                    simp at this; omega)
                  have hp := range_part hr HE.out.2.three j hjl
                  obtain ⟨A1, c1', A2, c2', hx, hr1, hr2, hc1, hc2⟩ := HE.out.2.at_ j L[j] e (by simp [hjl]) hjj
                  rw [hx] at hp
                  have hlb := range_lt hp (by simp)
                  have hp2 := range_below hp HI.out.bl hlb
                  have hok := HZ0.out.2.1.2.2.2 e (by rw [← (List.getElem?_eq_some_iff.1 hjj).2]; exact List.getElem_mem _)
                  have hlens := En.lens e hok
                  have hfl : ((es.take j).flatMap En.bytes).length ≤ 400 * 64 := by
                    have h := En.flat_len (es.take j) (fun a ha => HZ0.out.2.1.2.2.2 a (List.mem_of_mem_take ha))
                    have h2 := HZ0.out.2.1.2.1
                    rw [List.length_take] at h
                    omega
                  have hpre : (Wi.uvar F ++ Wi.uvar es.length ++ (es.take j).flatMap En.bytes).length < 1099511627776 := by
                    simp only [List.length_append]; omega
                  have htk : (es.take (j + 1)).flatMap En.bytes = (es.take j).flatMap En.bytes ++ En.bytes e := by
                    rw [List.take_succ_eq_append_getElem hlt, List.flatMap_append, List.flatMap_cons, List.flatMap_nil, List.append_nil, (List.getElem?_eq_some_iff.1 hjj).2]
                  have hcall := lay_any wq.heap.size w e A1 A2 c1' c2' _ _ (HI.out.grown (below_box wr (.cells #[b8 e.kind, .slice A1 e.key.length c1', .slice A2 e.val.length c2'] 36))) hr1 hr2 hpre (by omega) (by omega)
                  have HX := hid (And.intro hcall htk)
                  clear hr hr1 hr2 hx hp hc1 hc2 hL hok hlens hfl hpre htk hcall
                  go_wp2_with (first
                    | ((with_reducible refine ld_mid 36 (.tmp 57) g (o + j * 3) _ 3 _ rfl hp2 Tryz.underlying36 rfl (by kernel_rfl) ?_ ?_ ?_ ?_); rfl; rfl; rfl)
                    | (go_at_call 111
                       refine HX.out.1.mono ?_
                       rintro e7 w7 ⟨rfl, h, -⟩
                       have HC := hid h; clear h))
                  go_roundg (gk - 1)
                  case measure => omega
                  case rel => exact ⟨j + 1, by omega, by go_num, by rw [HX.out.2, ← List.append_assoc]; exact HC.out⟩
                · obtain rfl : j = es.length := by omega
                  have hfl : (Wi.uvar F ++ Wi.uvar es.length ++ (es.take es.length).flatMap En.bytes).length < 17592186044416 := by
                    have h := En.flat_len es HZ0.out.2.1.2.2.2
                    have h2 := HZ0.out.2.1.2.1
                    rw [List.take_length]
                    simp only [List.length_append]; omega
                  have HL := hid hfl
                  clear hfl
                  go_wp2_with (
                    (go_at_call 112
                     refine (bytes_w HI.out HL.out).mono ?_
                     rintro e7 w7 ⟨A', c', rfl, h1, h2, h3, h4⟩
                     have HZ := hid h1
                     clear h1 h2 h3 h4))
                  go_ret2
                  refine ⟨.slice A' ((Wi.uvar F).length + ((Wi.uvar es.length).length + (List.map (fun a => (En.bytes a).length) es).sum)) c', ?_, HZ.out⟩
                  rw [HZ0.out.1]; rfl
            · have i0 : ((En.bchk F es : Nat) : Int) ≠ 0 := by omega
              have i1 : (((En.bchk F es : Nat) : Int) != 0) = true := by rw [bne_iff_ne]; exact i0
              clear i0
              go_wp2_with fail
              go_ret2
              exact ⟨_, rfl, gro HB.out.2 HI.out.2⟩
end Go.Proofs.YtpnakfeafekneaaGreatDoor

namespace Go.Proofs.YtpnakfeafekneaaGreatDoor
namespace Mt
def below (k : Nat) : Nat := 2 ^ (k - 1).log2
theorem below_pos (k : Nat) : 0 < below k := Nat.two_pow_pos _
theorem below_lt (k : Nat) (hk : 2 ≤ k) : below k < k := by
  have := (Nat.log2_eq_iff (n := k - 1) (k := (k - 1).log2) (by omega)).1 rfl
  unfold below; omega
theorem below_eq (k i : Nat) (hk : 2 ≤ k) (h1 : 2 ^ i < k) (h2 : k ≤ 2 * 2 ^ i) : below k = 2 ^ i := by
  unfold below
  congr 1
  exact (Nat.log2_eq_iff (by omega)).2 ⟨by omega, by rw [Nat.pow_succ]; omega⟩
theorem below_pow (h : Nat) : below (2 ^ (h + 1)) = 2 ^ h := by
  have : 0 < 2 ^ h := Nat.two_pow_pos h
  exact below_eq _ _ (by rw [Nat.pow_succ]; omega) (by rw [Nat.pow_succ]; omega) (by rw [Nat.pow_succ]; omega)
def log (n : Nat) (ds : List (List UInt8)) : List UInt8 :=
  if h : 2 ≤ ds.length then
    have : below ds.length < ds.length := below_lt _ h
    have : 0 < below ds.length := below_pos _
    Dg.node n (log n (ds.take (below ds.length))) (log n (ds.drop (below ds.length)))
  else match ds with
    | d :: _ => d
    | [] => Dg.noLog n
termination_by ds.length
decreasing_by
  · rw [List.length_take]; omega
  · rw [List.length_drop]; omega
theorem log_one (n : Nat) (d : List UInt8) : log n [d] = d := by rw [log]; simp
theorem log_nil (n : Nat) : log n [] = Dg.noLog n := by rw [log]; simp
theorem log_two (n : Nat) (ds : List (List UInt8)) (h : 2 ≤ ds.length) : log n ds = Dg.node n (log n (ds.take (below ds.length))) (log n (ds.drop (below ds.length))) := by
  conv => lhs; rw [log]
  rw [dif_pos h]
theorem log_fit (n : Nat) (hn : n ≤ 32) : ∀ (k : Nat) (ds : List (List UInt8)), ds.length ≤ k → (∀ d ∈ ds, d.length = 32 ∧ Dg.form n d = true) → (log n ds).length = 32 ∧ Dg.form n (log n ds) = true := by
  intro k ds _ hf
  rcases ds with _ | ⟨d, _ | ⟨e, r⟩⟩
  · rw [log_nil]; exact ⟨Dg.sum_length _ _ hn, Dg.form_sum _ _ hn⟩
  · rw [log_one]; exact hf d (by simp)
  · rw [log_two _ _ (by simp)]; exact ⟨Dg.sum_length _ _ hn, Dg.form_sum _ _ hn⟩
end Mt
inductive MT where
  | leaf (d : List UInt8)
  | node (d : List UInt8) (l r : MT)
namespace MT
def dig : MT → List UInt8
  | leaf d => d
  | node d _ _ => d
def ht : MT → Nat
  | leaf _ => 0
  | node _ l _ => l.ht + 1
def size (t : MT) : Nat := 2 ^ t.ht
def leaves : MT → List (List UInt8)
  | leaf d => [d]
  | node _ l r => l.leaves ++ r.leaves
def ok (n : Nat) : MT → Prop
  | leaf _ => True
  | node d l r => l.ok n ∧ r.ok n ∧ l.ht = r.ht ∧ d = Dg.node n l.dig r.dig
theorem size_pos (t : MT) : 0 < t.size := Nat.two_pow_pos _
theorem leaves_len (n : Nat) : ∀ (t : MT), t.ok n → t.leaves.length = t.size
  | leaf _, _ => rfl
  | node d l r, h => by
    obtain ⟨h1, h2, h3, _⟩ := h
    simp only [leaves, List.length_append, leaves_len n l h1, leaves_len n r h2, size, ht, h3]
    rw [Nat.pow_succ]; omega
theorem dig_log (n : Nat) : ∀ (t : MT), t.ok n → t.dig = Mt.log n t.leaves
  | leaf d, _ => (Mt.log_one n d).symm
  | node d l r, h => by
    have hl := leaves_len n _ h
    obtain ⟨h1, h2, h3, h4⟩ := h
    have hl1 := leaves_len n l h1
    have hl2 := leaves_len n r h2
    have hb : Mt.below (node d l r).leaves.length = l.leaves.length := by
      rw [hl, hl1]
      show Mt.below (2 ^ (l.ht + 1)) = _
      rw [Mt.below_pow]; rfl
    have hp := size_pos l
    have hp2 := size_pos r
    rw [Mt.log_two _ _ (by simp only [leaves, List.length_append]; omega), hb]
    simp only [leaves, List.take_left', List.drop_left', dig]
    rw [← dig_log n l h1, ← dig_log n r h2, h4]
end MT
def Peaks (n : Nat) : List MT → Prop
  | [] => True
  | t :: ts => t.ok n ∧ (∀ u ∈ ts, u.ht < t.ht) ∧ Peaks n ts
def peakLeaves (ts : List MT) : List (List UInt8) := ts.flatMap MT.leaves
def push (n : Nat) : List MT → MT → List MT
  | [], x => [x]
  | r :: rs, x => if r.ht = x.ht then push n rs (.node (Dg.node n r.dig x.dig) r x) else x :: r :: rs
theorem Peaks.last {n : Nat} : ∀ {ts : List MT} {r : MT}, Peaks n (ts ++ [r]) → Peaks n ts ∧ r.ok n ∧ ∀ u ∈ ts, r.ht < u.ht
  | [], r, h => ⟨trivial, h.1, by simp⟩
  | t :: ts, r, h => by
    obtain ⟨h1, h2, h3⟩ := h
    obtain ⟨g1, g2, g3⟩ := Peaks.last h3
    refine ⟨⟨h1, fun u hu => h2 u (by simp [hu]), g1⟩, g2, ?_⟩
    intro u hu
    rcases List.mem_cons.1 hu with rfl | hu
    · exact h2 r (by simp)
    · exact g3 u hu
theorem Peaks.snoc {n : Nat} : ∀ {ts : List MT} {x : MT}, Peaks n ts → x.ok n → (∀ u ∈ ts, x.ht < u.ht) → Peaks n (ts ++ [x])
  | [], x, _, hx, _ => ⟨hx, by simp, trivial⟩
  | t :: ts, x, h, hx, hl => by
    obtain ⟨h1, h2, h3⟩ := h
    refine ⟨h1, ?_, Peaks.snoc h3 hx (fun u hu => hl u (by simp [hu]))⟩
    intro u hu
    rcases List.mem_append.1 hu with hu | hu
    · exact h2 u hu
    · rw [List.mem_singleton] at hu; subst hu; exact hl t (by simp)
theorem Peaks.rest {n : Nat} : ∀ {ts : List MT} {k : Nat}, Peaks n ts → (∀ u ∈ ts, u.ht < k) → (peakLeaves ts).length < 2 ^ k
  | [], k, _, _ => by simpa [peakLeaves] using Nat.two_pow_pos k
  | t :: ts, k, h, hk => by
    obtain ⟨h1, h2, h3⟩ := h
    have hr := Peaks.rest h3 h2
    have ht := hk t (by simp)
    have : (peakLeaves (t :: ts)).length = t.size + (peakLeaves ts).length := by
      simp [peakLeaves, MT.leaves_len n t h1]
    rw [this]
    have h2k : 2 ^ (t.ht + 1) ≤ 2 ^ k := Nat.pow_le_pow_right (by decide) ht
    rw [Nat.pow_succ] at h2k
    unfold MT.size
    omega
end Go.Proofs.YtpnakfeafekneaaGreatDoor

namespace Go.Proofs.YtpnakfeafekneaaGreatDoor
open Go.RowKit
structure LikeOps (ops ops' : Array Oper) (k : Nat) (o o' : Oper) : Prop where
  size : ops'.size = ops.size
  off : ∀ j, j ≠ k → ops'[j]? = ops[j]?
  at0 : ops[k]? = some o
  at1 : ops'[k]? = some o'
  dst : o'.dst = o.dst
  after : o'.after = o.after
  guard : o.guard = none
  guard' : o'.guard = none
section
variable {P : Program} {ops ops' : Array Oper} {md : Region.Mode} {k : Nat} {o o' : Oper}
theorem LikeOps.ready (h : LikeOps ops ops' k o o') (listed : Array Bool) : Region.ready md ops' listed = Region.ready md ops listed := by
  unfold Region.ready
  rw [h.size]
  congr 1
  funext i
  by_cases hi : i = k
  · subst hi; rw [h.at0, h.at1]; simp [h.after]
  · rw [h.off i hi]
theorem LikeOps.yielded (h : LikeOps ops ops' k o o') : yielded ops' = yielded ops := by
  funext tmps j
  unfold Go.yielded
  by_cases hj : j = k
  · subst hj; rw [h.at0, h.at1]; simp [h.dst]
  · rw [h.off j hj]
theorem LikeOps.qOp (h : LikeOps ops ops' k o o') {C : World → Prop} {i : Nat} (hi : i ≠ k) {K : Act → Prop} {a : Act} (hq : qOp P ops' C i K a) : qOp P ops C i K a := by
  unfold Go.qOp at *
  rw [h.off i hi, h.yielded] at hq
  exact hq
theorem LikeOps.seqB (h : LikeOps ops ops' k o o') : ∀ (g j : Nat) (listed : Array Bool), Region.seqB md ops' g j listed = Region.seqB md ops g j listed
  | 0, _, listed => by unfold Region.seqB; rw [h.ready]
  | g + 1, j, listed => by unfold Region.seqB; rw [h.ready, LikeOps.seqB h g]
theorem put_get (a : Act) (d : Option Tmp) (v : Value) (t : Tmp) (h : d ≠ some t) : (a.put d v).tmps[t]? = a.tmps[t]? := by
  cases d with
  | none => rfl
  | some s => simp only [Act.put]; rw [Array.getElem?_setIfInBounds_ne (fun e => h (by rw [e]))]
theorem put_eq (a : Act) (d : Option Tmp) (v u : Value) (h : ∀ t, d = some t → (a.put d v).tmps[t]? = (a.put d u).tmps[t]?) : a.put d v = a.put d u := by
  cases d with
  | none => rfl
  | some s =>
    have := h s rfl
    simp only [Act.put] at this ⊢
    by_cases hs : s < a.tmps.size
    · rw [Array.getElem?_setIfInBounds_self_of_lt hs, Array.getElem?_setIfInBounds_self_of_lt hs] at this
      rw [Option.some.inj this]
    · rw [Array.setIfInBounds_eq_of_size_le (Nat.le_of_not_lt hs), Array.setIfInBounds_eq_of_size_le (Nat.le_of_not_lt hs)]
theorem any_after {C : World → Prop} {n g : Nat} {L : Array Bool → Act → Prop} {Q' : Exit → Act → World → Prop} (lk : LikeOps ops ops' k o o') (hL : ∀ listed a w, C w → L listed a → wpAny P md ops Q' g listed a w) :
    ∀ (f : Nat) (listed : Array Bool) (a : Act) (w : World), C w → listed.getD k true = true → anyHead P md ops' C n L f listed a → wpAny P md ops Q' (f + g) listed a w
  | 0, listed, a, w, hw, _, h => by rw [Nat.zero_add]; exact hL _ _ _ hw h
  | f + 1, listed, a, w, hw, hk, h => by
    rw [show f + 1 + g = (f + g) + 1 by omega]
    have h' := h
    rw [anyHead, lk.ready] at h'
    refine ⟨fun h0 => absurd h0 h'.1, fun i hi => ?_⟩
    have hik : i ≠ k := fun e => by subst e; rw [(mem_ready.1 hi).1] at hk; cases hk
    exact wpOp_of_qOp hw (fun a' w' hw' h' => any_after lk hL f _ a' w' hw' (by rw [getD_set_ne true hik]; exact hk) h') (lk.qOp hik (h'.2 i hi).2)
theorem head_slot {C : World → Prop} {n i : Nat} {X : Array Bool → Prop} {A : Act} {t : Tmp} (hd : ∀ (j : Nat) (oj : Oper), ops[j]? = some oj → j ≠ i → oj.dst ≠ some t) :
    ∀ (f : Nat) (listed : Array Bool) (a : Act), anyHead P md ops C n (fun listed a => X listed ∧ a = A) f listed a → listed.getD i true = true → A.tmps[t]? = a.tmps[t]?
  | 0, _, _, h, _ => by rw [h.2]
  | f + 1, listed, a, h, hi => by
    obtain ⟨j, hj⟩ := List.exists_mem_of_ne_nil _ h.1
    obtain ⟨hjl, oj, hoj, _⟩ := mem_ready.1 hj
    have hji : j ≠ i := fun e => by subst e; rw [hjl] at hi; cases hi
    obtain ⟨v, _, hK⟩ := yieldsIn_of_qOp hoj (h.2 j hj).2
    rw [head_slot hd f _ _ hK (by rw [getD_set_ne true hji]; exact hi)]
    exact put_get _ _ _ _ (hd j oj hoj hji)
theorem getD_set_self {listed : Array Bool} {i : Nat} (h : listed.getD i true = false) : (listed.setIfInBounds i true).getD i true = true := by
  have hi : i < listed.size := by
    rcases Nat.lt_or_ge i listed.size with h' | h'
    · exact h'
    · simp [Array.getElem?_eq_none h'] at h
  simp [hi]
end
theorem distinct_of {l : List Oper} (h : ((List.range l.length).all fun i => (List.range l.length).all fun j => i == j || (match (l[i]?).bind (·.dst), (l[j]?).bind (·.dst) with | some a, some b => a != b | _, _ => true)) = true) :
    ∀ (i j : Nat) (oi oj : Oper) (t : Tmp), l.toArray[i]? = some oi → l.toArray[j]? = some oj → j ≠ i → oi.dst = some t → oj.dst ≠ some t := by
  intro i j oi oj t hi hj hji hd he
  rw [List.getElem?_toArray] at hi hj
  have hil := (List.getElem?_eq_some_iff.1 hi).1
  have hjl := (List.getElem?_eq_some_iff.1 hj).1
  have h1 := List.all_eq_true.1 h i (List.mem_range.2 hil)
  have h2 := List.all_eq_true.1 h1 j (List.mem_range.2 hjl)
  rw [hi, hj] at h2
  simp [hd, he, Ne.symm hji] at h2
theorem like_set {l : List Oper} {k : Nat} {o : Oper} (v : Value) (h : l[k]? = some o) (hg : o.guard = none) : LikeOps l.toArray (l.set k { o with op := .move (.const v) }).toArray k o { o with op := .move (.const v) } where
  size := by simp
  off := fun j hj => by simp [List.getElem?_set_ne (Ne.symm hj)]
  at0 := by simpa using h
  at1 := by have := (List.getElem?_eq_some_iff.1 h).1; simp [this]
  dst := rfl
  after := rfl
  guard := hg
  guard' := hg
theorem run_alloc_op {P : Program} {o : Oper} {T : TypeId} {z : Value} (ho : o.op = .alloc T) (hz : (P.info? T).bind (·.zero) = some z) (a : Act) (w' : World) : (execOp a.eval o).run P w' = .ok (.value (.pointer (some ⟨w'.heap.size, 0, none⟩))) (w'.alloc (.cells z.cells T)) := by
  cases hq : P.info? T with
  | none => simp [hq] at hz
  | some i =>
    have hz' : i.zero = some z := by simpa [hq] using hz
    simp [execOp, ho, Instr.alloc, zeroValue, typeInfo, hq, hz', newVar, newRow]
theorem anyHead_inv {P : Program} {md : Region.Mode} {ops : Array Oper} {C : World → Prop} {n : Nat} {L L' : Array Bool → Act → Prop} (hL : ∀ listed a, L listed a → HeadInv md ops n listed → L' listed a) :
    ∀ (f : Nat) (listed : Array Bool) (a : Act), HeadInv md ops n listed → anyHead P md ops C n L f listed a → anyHead P md ops C n L' f listed a
  | 0, _, _, hi, h => hL _ _ h hi
  | f + 1, _, _, hi, h => ⟨h.1, fun i hr => ⟨(h.2 i hr).1, qOp_mono (fun _ h' => anyHead_inv hL f _ _ (hi.set hr (h.2 i hr).1) h') (h.2 i hr).2⟩⟩
end Go.Proofs.YtpnakfeafekneaaGreatDoor
