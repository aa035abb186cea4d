/- Part 44 of this proof: ZK, ZL, ZM, ZN, ZO. -/
import Derived.Laws.EntriesVeiled
import Derived.Test.YtpnakfeafekneaaGreatDoorG43
set_option linter.unusedSimpArgs false
set_option linter.unusedVariables false
/- The program's replay.Build of a list with a bad batch, and at a bad width. -/
namespace Go.Proofs.YtpnakfeafekneaaGreatDoor
open Go.RowKit
set_option maxHeartbeats 4000000 in
set_option maxRecDepth 100000 in
theorem build_bad (n : Nat) (h1 : 1 ≤ n) (h2 : n ≤ 32) (bs : List (List Ent)) (Fs : List Nat) (A : Option Addr) (m c : Nat) (X : List (List Value)) (w : World) (i0 : Nat) (hw : Words w) (hm : bs.length = m) (hA : Rd w A X.flatten) (hX : BatsAt w X Fs bs) (hFs : ∀ F ∈ Fs, F < 18446744073709551616) (hgood : ∀ i, i < i0 → Bl.err Fs bs i = 0) (hi0 : i0 < m) (hbad : Bl.err Fs bs i0 ≠ 0) (hn : m + 2 < 1048576) (htot : bs.flatten.length < 1048576) :
    Calls Tryz.prog 19 #[.int .i64 n, .slice A m c] w fun e w' => e = .returned (.tuple #[.pointer none, .int .i64 (Bl.err Fs bs i0)]) ∧ Below w.heap.size w w' := by
  have HA := hid (And.intro hA (And.intro hX (And.intro hFs (And.intro hgood (And.intro hbad (And.intro hw (And.intro hm (And.intro htot (And.intro h1 h2)))))))))
  clear hA hX hFs hgood hbad hw hm htot h1 h2
  obtain ⟨z, hz⟩ : ∃ z, z = Bl.err Fs bs i0 := ⟨_, rfl⟩
  have hz0 : z ≠ 0 := by rw [hz]; exact HA.out.2.2.2.2.1
  have hzi : ¬ (z : Int) = 0 := by omega
  have HZ := hid hz
  rw [← hz]
  clear hz
  go_enter Tryz.func19, Tryz.ntmps19
  go_wp2_with (go_at_call 38
               refine (snew_ok n HA.out.2.2.2.2.2.2.2.2.1 HA.out.2.2.2.2.2.2.2.2.2 w HA.out.2.2.2.2.2.1 (Lo.zero _)).mono ?_
               rintro e w1 ⟨b1, rfl, hb1, hs1⟩
               have H1 := hid (And.intro hb1 hs1)
               clear hb1 hs1)
  go_loopg [6, 7, 17] m (fun g s6 s7 i wr => ∃ j : Nat, j + g = m ∧ i = .int .i64 j ∧ ((j ≤ i0 ∧ s7 = .int .i64 0 ∧ ∃ b S : Nat, s6 = ptr b ∧ SnapAt S wr n b (bs.take j).flatten (Rbs n bs j)) ∨ (j = i0 + 1 ∧ s6 = .pointer none ∧ s7 = .int .i64 z)) ∧ Below w.heap.size w wr)
  case atStart => exact ⟨0, by omega, rfl, .inl ⟨Nat.zero_le _, rfl, b1, _, rfl, by rw [Rbs_zero]; exact H1.out.2⟩, H1.out.1⟩
  case round =>
    clear H1
    obtain ⟨j, hj, rfl, ⟨hji, rfl, b, S, rfl, hs⟩ | ⟨hji, rfl, rfl⟩, hbl⟩ := hrel
    · have HR := hid (And.intro hs hbl)
      clear hs hbl
      have hlt : j < m := by omega
      have hjb : j < bs.length := by rw [HA.out.2.2.2.2.2.2.1]; exact hlt
      have hl1 := HA.out.2.1.len
      have hl2 := HA.out.2.1.lenF
      have hjX : j < X.length := by omega
      have hjF : j < Fs.length := by omega
      obtain ⟨g, o, rfl, hr⟩ := HA.out.1 (by
        intro e
        have := flatten_len 2 _ HA.out.2.1.all2
        rw [e] at this
        simp at this; omega)
      have hp := range_part hr HA.out.2.1.all2 j hjX
      obtain ⟨A1, c1, L1, hx, hr1, he1⟩ := HA.out.2.1.at_ j X[j] Fs[j] bs[j] (by simp [hjX]) (by simp [hjF]) (by simp [hjb])
      rw [hx] at hp
      have hlb := range_lt hp (by simp)
      have hp2 := range_below hp HR.out.2 hlb
      have hFj := HA.out.2.2.1 Fs[j] (List.getElem_mem hjF)
      have herr := Bl.at_ Fs bs j hjb hjF
      have hnx : (bs.take (j + 1)).flatten = (bs.take j).flatten ++ bs[j] := by rw [List.take_succ_eq_append_getElem hjb, List.flatten_append]; simp
      have hrs := Rbs_succ n bs j
      have htl := flatten_take_le bs (j + 1)
      rw [hnx, List.length_append] at htl
      have htt := HA.out.2.2.2.2.2.2.2.1
      obtain ⟨F, hFe⟩ : ∃ F, F = Fs[j] := ⟨_, rfl⟩
      obtain ⟨M, hM⟩ : ∃ M, M = bs[j].length := ⟨_, rfl⟩
      rw [← hFe] at hp2 hFj herr
      rw [← hM] at hp2
      have hoc : ∀ v ∈ [Value.int .u64 F, .slice A1 M c1], v.oneCell' = true := fun v hv => by
        simp only [List.mem_cons, List.not_mem_nil, or_false] at hv
        rcases hv with rfl | rfl <;> rfl
      have hp9 := (Blk.new wr 47 [.int .u64 F, .slice A1 M c1]).whole
      by_cases hjlt : j < i0
      · have he0 := HA.out.2.2.2.1 j hjlt
        rw [herr] at he0
        have hck : En.bchk F bs[j] = 0 := by
          by_cases h : En.bchk F bs[j] = 0
          · exact h
          · rw [if_pos h] at he0; exact absurd he0 h
        have hFN : F = (bs.take j).flatten.length := by
          rw [if_neg (by simp [hck])] at he0
          by_cases h : F = (bs.take j).flatten.length
          · exact h
          · rw [if_pos h] at he0; cases he0
        rw [hFN] at hck
        have happ := sapply_ok S b n HA.out.2.2.2.2.2.2.2.2.1 HA.out.2.2.2.2.2.2.2.2.2 (bs.take j).flatten bs[j] (Rbs n bs j) A1 c1 L1
        have hcall : ∀ w', Below w.heap.size w w' → SnapAt S w' n b (bs.take j).flatten (Rbs n bs j) → Calls Tryz.prog 40 #[ptr b, .agg #[.int .u64 F, .slice A1 M c1]] w' fun e w'' => ∃ b', e = .returned (.tuple #[ptr b', .int .i64 0]) ∧ Below w'.heap.size w' w'' ∧ SnapAt w'.heap.size w'' n b' ((bs.take j).flatten ++ bs[j]) (Rbs n bs j ++ [Sn.root n ((bs.take j).flatten ++ bs[j])]) := fun w' hb hs => by
          rw [hFN, hM]
          exact happ w' (HA.out.2.2.2.2.2.1.below hb) hs (hr1.grown hb) (he1.grown hb) (by omega) (by rw [Rbs_len]; omega) hck
        rw [← hnx] at hcall
        have HC := hid (And.intro hcall (And.intro hrs (below_box wr (.cells [Value.int .u64 F, .slice A1 M c1].toArray 47))))
        clear hcall hrs hnx htl happ hck hr hr1 he1 hx hp hlb hFe hM hl1 hl2 he0 hFN herr hFj htt
        go_wp2_with (first
          | ((with_reducible refine ld_mid 47 (.tmp 19) g (o + j * 2) _ 2 _ rfl hp2 Tryz.underlying47 rfl (by kernel_rfl) ?_ ?_ ?_ ?_); rfl; rfl; rfl)
          | ((with_reducible refine st_new 47 (.tmp 9) (.tmp 20) _ _ [.int .u64 F, .slice A1 M c1] 2 rfl ?_ (by kernel_rfl) hoc ?_ ?_ ?_ ?_ ?_); rfl; rfl; rfl; rfl; rfl)
          | ((with_reducible refine ld_mid 47 (.tmp 9) wr.heap.size 0 _ 2 _ rfl hp9 Tryz.underlying47 rfl (by kernel_rfl) ?_ ?_ ?_ ?_); rfl; rfl; rfl)
          | (go_at_call 40
             refine (HC.out.1 _ (gro HR.out.2 HC.out.2.2) (HR.out.1.grown HC.out.2.2)).mono ?_
             rintro e w5 ⟨b5, rfl, hb5, hs5⟩
             have H5 := hid (And.intro (gro HC.out.2.2 hb5) hs5)
             clear hb5 hs5))
        go_roundg (gk - 1)
        case measure => omega
        case rel => exact ⟨j + 1, by omega, by go_num, .inl ⟨by omega, rfl, b5, _, rfl, by rw [HC.out.2.1]; exact H5.out.2⟩, gro HR.out.2 H5.out.1⟩
      · have hji0 : i0 = j := by omega
        have hbd := HA.out.2.2.2.2.1
        have hzv := HZ.out
        rw [hji0, herr] at hbd hzv
        have hck : En.bchk F bs[j] ≠ 0 ∨ F ≠ (bs.take j).flatten.length := by
          by_cases h : En.bchk F bs[j] = 0
          · right; intro h'; rw [if_neg (by simp [h]), if_neg (by simp [h'])] at hbd; exact hbd rfl
          · exact .inl h
        have hzv2 : z = if En.bchk F bs[j] ≠ 0 then En.bchk F bs[j] else 3 := by
          by_cases h : En.bchk F bs[j] = 0
          · rw [if_neg (by simp [h])]
            rw [if_neg (by simp [h]), if_pos (by rcases hck with h' | h'; exact absurd h h'; exact h')] at hzv
            exact hzv
          · rw [if_pos h] at hzv ⊢; exact hzv
        have hcall : ∀ w', Below w.heap.size w w' → SnapAt S w' n b (bs.take j).flatten (Rbs n bs j) → Calls Tryz.prog 40 #[ptr b, .agg #[.int .u64 F, .slice A1 M c1]] w' fun e w'' => e = .returned (.tuple #[.pointer none, .int .i64 z]) ∧ Below w'.heap.size w' w'' := fun w' hb hs => by
          rw [hzv2]
          exact sapply_bad S b n (bs.take j).flatten bs[j] (Rbs n bs j) F A1 M c1 L1 w' hs hFj hM.symm (hr1.grown hb) (he1.grown hb) (by omega) (by omega) (by rw [Rbs_len]; omega) hck
        have HC := hid (And.intro hcall (below_box wr (.cells [Value.int .u64 F, .slice A1 M c1].toArray 47)))
        have HJ := hid hji0
        clear hcall hrs hnx htl hck hr hr1 he1 hx hp hlb hFe hM hl1 hl2 herr hFj htt hzv hzv2 hbd hji0
        go_wp2_with (first
          | ((with_reducible refine ld_mid 47 (.tmp 19) g (o + j * 2) _ 2 _ rfl hp2 Tryz.underlying47 rfl (by kernel_rfl) ?_ ?_ ?_ ?_); rfl; rfl; rfl)
          | ((with_reducible refine st_new 47 (.tmp 9) (.tmp 20) _ _ [.int .u64 F, .slice A1 M c1] 2 rfl ?_ (by kernel_rfl) hoc ?_ ?_ ?_ ?_ ?_); rfl; rfl; rfl; rfl; rfl)
          | ((with_reducible refine ld_mid 47 (.tmp 9) wr.heap.size 0 _ 2 _ rfl hp9 Tryz.underlying47 rfl (by kernel_rfl) ?_ ?_ ?_ ?_); rfl; rfl; rfl)
          | (go_at_call 40
             refine (HC.out.1 _ (gro HR.out.2 HC.out.2) (HR.out.1.grown HC.out.2)).mono ?_
             rintro e w5 ⟨rfl, hb5⟩
             have H5 := hid (gro HC.out.2 hb5)
             clear hb5))
        go_roundg (gk - 1)
        case measure => omega
        case rel => exact ⟨j + 1, by omega, by go_num, .inr ⟨by have := HJ.out; omega, rfl, rfl⟩, gro HR.out.2 H5.out⟩
    · have HR := hid hbl
      clear hbl
      have hjm1 : j ≤ m := by omega
      clear hji
      by_cases hlt : j < m
      · have hl1 := HA.out.2.1.len
        have hl2 := HA.out.2.1.lenF
        have hjb : j < bs.length := by rw [HA.out.2.2.2.2.2.2.1]; exact hlt
        have hjX : j < X.length := by omega
        have hjF : j < Fs.length := by omega
        obtain ⟨g, o, rfl, hr⟩ := HA.out.1 (by
          intro e
          have := flatten_len 2 _ HA.out.2.1.all2
          rw [e] at this
          simp at this; omega)
        have hp := range_part hr HA.out.2.1.all2 j hjX
        obtain ⟨A1, c1, L1, hx, hr1, he1⟩ := HA.out.2.1.at_ j X[j] Fs[j] bs[j] (by simp [hjX]) (by simp [hjF]) (by simp [hjb])
        rw [hx] at hp
        have hlb := range_lt hp (by simp)
        have hp2 := range_below hp HR.out hlb
        obtain ⟨F, hFe⟩ : ∃ F, F = Fs[j] := ⟨_, rfl⟩
        obtain ⟨M, hM⟩ : ∃ M, M = bs[j].length := ⟨_, rfl⟩
        rw [← hFe, ← hM] at hp2
        have hoc : ∀ v ∈ [Value.int .u64 F, .slice A1 M c1], v.oneCell' = true := fun v hv => by
          simp only [List.mem_cons, List.not_mem_nil, or_false] at hv
          rcases hv with rfl | rfl <;> rfl
        have HC := hid (below_box wr (.cells [Value.int .u64 F, .slice A1 M c1].toArray 47))
        clear hr hr1 he1 hx hp hlb hFe hM hl1 hl2
        go_wp2_with (first
          | ((with_reducible refine ld_mid 47 (.tmp 19) g (o + j * 2) _ 2 _ rfl hp2 Tryz.underlying47 rfl (by kernel_rfl) ?_ ?_ ?_ ?_); rfl; rfl; rfl)
          | ((with_reducible refine st_new 47 (.tmp 9) (.tmp 20) _ _ [.int .u64 F, .slice A1 M c1] 2 rfl ?_ (by kernel_rfl) hoc ?_ ?_ ?_ ?_ ?_); rfl; rfl; rfl; rfl; rfl))
        go_ret2
        exact ⟨rfl, gro HR.out HC.out⟩
      · have hjm : j = m := by omega
        have hle : ¬ (j : Int) < (m : Int) := by omega
        clear hjm
        go_wp2_with fail
        go_ret2
        exact ⟨rfl, HR.out⟩
set_option maxHeartbeats 1000000 in
theorem build_width (x : Int) (hx : x < 1 ∨ 32 < x) (bs : List (List Ent)) (Fs : List Nat) (A : Option Addr) (m c : Nat) (X : List (List Value)) (w : World) (hm : bs.length = m) (hA : Rd w A X.flatten) (hX : BatsAt w X Fs bs) (hn : m + 2 < 1048576) :
    Calls Tryz.prog 19 #[.int .i64 x, .slice A m c] w fun e w' => e = .returned (.tuple #[.pointer none, .int .i64 1]) ∧ Below w.heap.size w w' := by
  have HA := hid (And.intro hA (And.intro hX (And.intro hx hm)))
  clear hA hX hx hm
  by_cases h0 : 0 < m
  · have hl1 := HA.out.2.1.len
    have hl2 := HA.out.2.1.lenF
    have hm := HA.out.2.2.2
    obtain ⟨g, o, rfl, hr⟩ := HA.out.1 (by
      intro e
      have := flatten_len 2 _ HA.out.2.1.all2
      rw [e] at this
      simp at this; omega)
    have hp := range_part hr HA.out.2.1.all2 0 (by omega)
    obtain ⟨A1, c1, L1, hx, hr1, he1⟩ := HA.out.2.1.at_ 0 (X[0]'(by omega)) (Fs[0]'(by omega)) (bs[0]'(by omega)) (by simp) (by simp) (by simp)
    rw [hx, show o + 0 * 2 = o by omega] at hp
    obtain ⟨F, hFe⟩ : ∃ F, F = Fs[0]'(by omega) := ⟨_, rfl⟩
    obtain ⟨M, hM⟩ : ∃ M, M = (bs[0]'(by omega)).length := ⟨_, rfl⟩
    rw [← hFe, ← hM] at hp
    have hoc : ∀ v ∈ [Value.int .u64 F, .slice A1 M c1], v.oneCell' = true := fun v hv => by
      simp only [List.mem_cons, List.not_mem_nil, or_false] at hv
      rcases hv with rfl | rfl <;> rfl
    clear hr hr1 he1 hx hFe hM hl1 hl2 hm
    go_enter Tryz.func19, Tryz.ntmps19
    go_wp2_with (go_at_call 38
                 refine (snew_bad x HA.out.2.2.1 w).mono ?_
                 rintro e w1 ⟨rfl, rfl⟩)
    go_loopg [6, 7, 17] 1 (fun g s6 s7 i wr => g = 1 ∧ s6 = .pointer none ∧ s7 = .int .i64 1 ∧ i = .int .i64 0 ∧ wr = w)
    case atStart => exact ⟨rfl, rfl, rfl, rfl, rfl⟩
    case round =>
      obtain ⟨rfl, rfl, rfl, rfl, rfl⟩ := hrel
      go_wp2_with (first
        | ((with_reducible refine ld_mid 47 (.tmp 19) g o _ 2 _ rfl hp Tryz.underlying47 rfl (by kernel_rfl) ?_ ?_ ?_ ?_); rfl; rfl; rfl)
        | ((with_reducible refine st_new 47 (.tmp 9) (.tmp 20) _ _ [.int .u64 F, .slice A1 M c1] 2 rfl ?_ (by kernel_rfl) hoc ?_ ?_ ?_ ?_ ?_); rfl; rfl; rfl; rfl; rfl))
      go_ret2
      exact ⟨rfl, below_box _ _⟩
  · obtain rfl : m = 0 := by omega
    go_enter Tryz.func19, Tryz.ntmps19
    go_wp2_with (go_at_call 38
                 refine (snew_bad x HA.out.2.2.1 w).mono ?_
                 rintro e w1 ⟨rfl, rfl⟩)
    go_loopg [6, 7, 17] 1 (fun g s6 s7 i wr => g = 1 ∧ s6 = .pointer none ∧ s7 = .int .i64 1 ∧ i = .int .i64 0 ∧ wr = w)
    case atStart => exact ⟨rfl, rfl, rfl, rfl, rfl⟩
    case round =>
      obtain ⟨rfl, rfl, rfl, rfl, rfl⟩ := hrel
      go_wp2_with fail
      go_ret2
      exact ⟨rfl, Below.refl _ _⟩
end Go.Proofs.YtpnakfeafekneaaGreatDoor

/- snap's Sizes: the boundaries. -/
namespace Go.Proofs.YtpnakfeafekneaaGreatDoor
open Go.RowKit
/-- The sizes of roots, as cells. -/
def rtSz (rs : List Rt) : List Value := rs.map fun r => .int .u64 (r.size : Nat)
theorem Rbs_sz (n : Nat) (bs : List (List Ent)) (k : Nat) : rtSz (Rbs n bs k) = Szs bs k := by
  unfold rtSz Rbs Szs
  rw [List.map_map]
  rfl
theorem rtSz_take (rs : List Rt) (j : Nat) (hj : j < rs.length) : rtSz (rs.take (j + 1)) = rtSz (rs.take j) ++ [.int .u64 (rs[j].size : Nat)] := by
  unfold rtSz
  rw [List.take_succ_eq_append_getElem hj, List.map_append]
  rfl
theorem ssizes_any [Inhabited LoT] (S b n : Nat) (es : List Ent) (rs : List Rt) (k : Nat) (w : World) (hs : SnapAt S w n b es rs) (hk : rs.length = k) (hn : k < 1048576) :
    Calls Tryz.prog 31 #[ptr b] w fun e w' => ∃ As cs, e = .returned (.slice As k cs) ∧ Below w.heap.size w w' ∧ Rd w' As (rtSz rs) := by
  obtain ⟨tb, mb, Ae, ce, Le, Ap, cp, hb, -, -, -, ⟨hp1, hp2, -⟩, -, hok⟩ := hs
  have q3 : w.cell? ⟨b, 3, none⟩ = some (.slice Ap rs.length cp) := by rw [hb.cell]; rfl
  rw [hk] at q3
  have HA := hid (And.intro hp1 (And.intro hok hk))
  clear hb hp1 hp2 hok hk
  go_enter Tryz.func31, Tryz.ntmps31
  go_wp2_with fail
  go_loopg [3, 14] k (fun g s3 i wr => ∃ (j : Nat) (As : Option Addr) (cs : Nat), j + g = k ∧ i = .int .i64 j ∧ s3 = .slice As j cs ∧ wr.ownsRow w.heap.size 38 1 (.slice As j cs) j (rtSz (rs.take j)) ∧ Below w.heap.size w wr)
  case atStart => exact ⟨0, none, 0, by omega, rfl, rfl, World.ownsRow_nil _ _ _ _, Below.refl _ _⟩
  case round =>
    obtain ⟨j, As, cs, hj, rfl, rfl, hos, hbl⟩ := hrel
    have HR := hid (And.intro hos hbl)
    clear hos hbl
    by_cases hlt : j < k
    · have hjr : j < rs.length := by rw [HA.out.2.2]; exact hlt
      have h65 := rtRow_len HA.out.2.1
      have hjl : j < (rtRow rs).length := by unfold rtRow; rw [List.length_map]; exact hjr
      obtain ⟨g, o, rfl, hr⟩ := HA.out.1 (by
        intro e
        have := flatten_len 65 _ h65
        rw [e] at this
        simp at this; omega)
      have hp := range_part hr h65 j hjl
      have hej : (rtRow rs)[j] = rtCells rs[j] := by simp [rtRow]
      rw [hej] at hp
      have hrk := HA.out.2.1 rs[j] (List.getElem_mem hjr)
      have hrl := rt_len hrk
      have hoc := rt_oc rs[j]
      have htk := rtSz_take rs j hjr
      obtain ⟨T, hT⟩ : ∃ T, T = rs[j].size := ⟨_, rfl⟩
      rw [← hT] at htk
      have h0 : (rtCells rs[j])[0]? = some (.int .u64 T) := by rw [hT]; rfl
      obtain ⟨R, hR⟩ : ∃ R, R = rtCells rs[j] := ⟨_, rfl⟩
      rw [← hR] at hp hrl hoc h0
      have hp2 := range_below hp HR.out.2 (range_lt hp (by omega))
      have k9 : (wr.alloc (.cells R.toArray 42)).cell? ⟨wr.heap.size, 0, none⟩ = some (.int .u64 T) := by rw [(Blk.new wr 42 R).cell]; exact h0
      have hou : ∀ u ∈ [Value.int .u64 T], u.oneCell' = true := fun u hu => by rw [List.mem_singleton] at hu; rw [hu]; rfl
      have hb1 := below_box wr (.cells R.toArray 42)
      have hb2 := gro hb1 (below_box (wr.alloc (.cells R.toArray 42)) (.cells [Value.int .u64 T].toArray 38))
      have own8 := own_grown HR.out.1 hb2
      have hr8 := Rd.of _ (Blk.new (wr.alloc (.cells R.toArray 42)) 38 [.int .u64 T]).whole
      have hbs8 := (gro HR.out.2 hb2).size
      have h63 : j + 1 ≤ maxLen := by simp only [maxLen]; omega
      have hby : (j + 1) * 8 ≤ 140737488355328 := by omega
      rw [show (wr.alloc (.cells R.toArray 42)).heap.size = wr.heap.size + 1 by simp] at hr8
      have H8 := hid (And.intro own8 (And.intro hr8 (And.intro hb2 htk)))
      clear hr hp hej hR hT htk hb1 hb2 own8 hr8 h0 hrk h65
      go_wp2_with (first
        | ((with_reducible refine ld_mid 42 (.tmp 16) g (o + j * 65) R 65 _ hrl hp2 Tryz.underlying42 rfl (by kernel_rfl) ?_ ?_ ?_ ?_); rfl; rfl; rfl)
        | ((with_reducible refine st_new 42 (.tmp 5) (.tmp 17) _ _ R 65 hrl ?_ (by kernel_rfl) hoc ?_ ?_ ?_ ?_ ?_); rfl; rfl; rfl; rfl; rfl)
        | ((with_reducible refine ap_own (.tmp 18) (.tmp 21) 52 Tryz.underlying52 info_u64 rfl (by decide) H8.out.1 1 1 rfl H8.out.2.1 hou h63 hby hbs8 ?_ ?_ ?_ ?_ ?_); rfl; rfl; rfl; rfl
           intro v9 w9 hn1 hn2 hn3 hn4
           obtain ⟨A9, c9, rfl, hr9, hc9⟩ := rd_own hn1
           have H9 := hid (And.intro hn1 (grownBy_below H8.out.1 (gro HR.out.2 H8.out.2.2.1) hbs8 hn2))
           clear hn1 hn2 hn3 hn4 hr9 hc9))
      go_roundg (gk - 1)
      case measure => omega
      case rel => exact ⟨j + 1, A9, c9, by omega, by go_num, rfl, by rw [H8.out.2.2.2]; exact H9.out.1, H9.out.2⟩
    · obtain rfl : j = k := by omega
      have hos := HR.out.1
      rw [List.take_of_length_le (by rw [HA.out.2.2]; exact Nat.le_refl _)] at hos
      have HO := hid hos
      clear hos
      go_wp2_with fail
      go_ret
      obtain ⟨A9, c9, e9, hr9, -⟩ := rd_own HO.out
      cases e9
      exact ⟨As, cs, rfl, HR.out.2, hr9⟩
end Go.Proofs.YtpnakfeafekneaaGreatDoor

/- snap's Past: the root at a boundary. -/
namespace Go.Proofs.YtpnakfeafekneaaGreatDoor
open Go.RowKit
/-- The closure of Past. -/
abbrev pastFn (B : Nat) : Value := .func (Fn.func 56) #[] #[ptr B]
theorem past1_any (r : Rt) (h : RtOk r) (B v : Nat) (q : Bool) (hq : q = decide (r.size = v)) (w : World) (hB : w.cell? ⟨B, 0, none⟩ = some (.int .u64 v)) :
    Calls Tryz.prog 56 #[.agg (rtCells r).toArray, ptr B] w fun e w' => e = .returned (.bool q) ∧ Below w.heap.size w w' := by
  have hrl := rt_len h
  have h0 : (rtCells r)[0]? = some (.int .u64 (r.size : Nat)) := rfl
  obtain ⟨T, hT⟩ : ∃ T, T = r.size := ⟨_, rfl⟩
  rw [← hT] at h0 hq
  obtain ⟨R, hR⟩ : ∃ R, R = rtCells r := ⟨_, rfl⟩
  rw [← hR] at hrl h0 ⊢
  have k0 : (w.alloc (.cells R.toArray 42)).cell? ⟨w.heap.size, 0, none⟩ = some (.int .u64 T) := by rw [(Blk.new w 42 R).cell]; exact h0
  have hbb := below_box w (.cells R.toArray 42)
  have kB : (w.alloc (.cells R.toArray 42)).cell? ⟨B, 0, none⟩ = some (.int .u64 v) := by rw [hbb.cell (p := ⟨B, 0, none⟩) (World.block_lt_of_cell? w _ hB)]; exact hB
  have HB := hid (And.intro hbb hq)
  clear hT hR h hq hbb hB
  go_enter Tryz.func56, Tryz.ntmps56
  go_wp2_with fail
  go_ret
  refine ⟨?_, HB.out.1⟩
  rw [HB.out.2]
  have : ((T : Int) == (v : Int)) = decide (T = v) := by
    by_cases h : T = v
    · subst h; simp
    · rw [decide_eq_false h, beq_eq_false_iff_ne]; omega
  first | rfl | (rw [← this]; rfl) | (simp)
set_option maxHeartbeats 1000000 in
set_option maxRecDepth 100000 in
theorem idxroot_any [Inhabited LoT] (rs : List Rt) (hok : ∀ r ∈ rs, RtOk r) (m : Nat) (hm : rs.length = m) (hm20 : m < 1048576) (A : Option Addr) (c : Nat) (B v k : Nat) (hk : k < m) (hno : ∀ i (hi : i < rs.length), i < k → rs[i].size ≠ v) (hyes : ∀ (hi : k < rs.length), rs[k].size = v) (w : World) (hA : Rd w A (rtRow rs).flatten) (hB : w.cell? ⟨B, 0, none⟩ = some (.int .u64 v)) :
    Calls Tryz.prog 55 #[.slice A m c, pastFn B] w fun e w' => e = .returned (.int .i64 k) ∧ Below w.heap.size w w' := by
  have HA := hid (And.intro hA (And.intro hok (And.intro hm (And.intro hno (And.intro hyes hB)))))
  clear hA hok hm hno hyes hB
  go_enter Tryz.func55, Tryz.ntmps55
  go_wp2_with fail
  go_loopg [8] m (fun g i wr => ∃ j : Nat, j + g = m ∧ j ≤ k ∧ i = .int .i64 j ∧ Below w.heap.size w wr)
  case atStart => exact ⟨0, by omega, Nat.zero_le _, rfl, Below.refl _ _⟩
  case round =>
    obtain ⟨j, hj, hjk, rfl, hbl⟩ := hrel
    have HR := hid hbl
    have hlt : j < m := by omega
    have hjr : j < rs.length := by rw [HA.out.2.2.1]; exact hlt
    have h65 := rtRow_len HA.out.2.1
    have hjl : j < (rtRow rs).length := by unfold rtRow; rw [List.length_map]; exact hjr
    obtain ⟨g, o, rfl, hr⟩ := HA.out.1 (by
      intro e
      have := flatten_len 65 _ h65
      rw [e] at this
      simp at this; omega)
    have hp := range_part hr h65 j hjl
    have hej : (rtRow rs)[j] = rtCells rs[j] := by simp [rtRow]
    rw [hej] at hp
    have hrk := HA.out.2.1 rs[j] (List.getElem_mem hjr)
    have hrl := rt_len hrk
    have kB : wr.cell? ⟨B, 0, none⟩ = some (.int .u64 v) := by rw [hbl.cell (p := ⟨B, 0, none⟩) (World.block_lt_of_cell? w _ HA.out.2.2.2.2.2)]; exact HA.out.2.2.2.2.2
    obtain ⟨r, hrr⟩ : ∃ r, r = rs[j] := ⟨_, rfl⟩
    have hy : j = k → true = decide (r.size = v) := fun e => by subst e; rw [hrr]; exact (decide_eq_true (HA.out.2.2.2.2.1 hjr)).symm
    have hz : j < k → false = decide (r.size = v) := fun e => by rw [hrr]; exact (decide_eq_false (HA.out.2.2.2.1 j hjr e)).symm
    rw [← hrr] at hrk hrl hp
    have hc1 := fun e : j = k => past1_any r hrk B v true (hy e) wr kB
    have hc2 := fun e : j < k => past1_any r hrk B v false (hz e) wr kB
    obtain ⟨R, hR⟩ : ∃ R, R = rtCells r := ⟨_, rfl⟩
    rw [← hR] at hp hrl hc1 hc2
    have hp2 := range_below hp HR.out (range_lt hp (by omega))
    have HC := hid (And.intro hc1 hc2)
    clear hbl hy hz hc1 hc2 hr hp hej hR hrk kB h65 hrr
    by_cases he : j = k
    · have hcc := HC.out.1 he
      have HX := hid (And.intro he hcc)
      clear he hcc
      go_wp2_with (first
        | ((with_reducible refine ld_mid 42 (.tmp 14) g (o + j * 65) R 65 _ hrl hp2 Tryz.underlying42 rfl (by kernel_rfl) ?_ ?_ ?_ ?_); rfl; rfl; rfl)
        | (go_at_call 56
           refine HX.out.2.mono ?_
           rintro e w5 ⟨rfl, hb5⟩
           have H5 := hid hb5
           clear hb5))
      go_ret
      exact ⟨by rw [← HX.out.1]; rfl, gro HR.out H5.out⟩
    · have hjk2 : j < k := by omega
      have hcc := HC.out.2 hjk2
      have HX := hid hcc
      clear he hcc
      go_wp2_with (first
        | ((with_reducible refine ld_mid 42 (.tmp 14) g (o + j * 65) R 65 _ hrl hp2 Tryz.underlying42 rfl (by kernel_rfl) ?_ ?_ ?_ ?_); rfl; rfl; rfl)
        | (go_at_call 56
           refine HX.out.mono ?_
           rintro e w5 ⟨rfl, hb5⟩
           have H5 := hid hb5
           clear hb5))
      go_roundg (gk - 1)
      case measure => omega
      case rel => exact ⟨j + 1, by omega, by omega, by go_num, gro HR.out H5.out⟩
end Go.Proofs.YtpnakfeafekneaaGreatDoor

/- snap's Past: the root at a boundary. -/
namespace Go.Proofs.YtpnakfeafekneaaGreatDoor
open Go.RowKit
/-- The roots are those of the entries' beginnings. -/
def Pre (n : Nat) (es : List Ent) (rs : List Rt) : Prop := ∀ r ∈ rs, r = Sn.root n (es.take r.size) ∧ r.size ≤ es.length
theorem take_flat {α : Type} (bs : List (List α)) (i : Nat) : bs.flatten.take (bs.take i).flatten.length = (bs.take i).flatten := by
  conv => lhs; rw [show bs.flatten = (bs.take i).flatten ++ (bs.drop i).flatten from by rw [← List.flatten_append, List.take_append_drop]]
  rw [List.take_left']
  rfl
theorem Rbs_pre [Inhabited LoT] (n : Nat) (bs : List (List Ent)) (k : Nat) : Pre n bs.flatten (Rbs n bs k) := by
  intro r hr
  unfold Rbs at hr
  obtain ⟨i, -, rfl⟩ := List.mem_map.1 hr
  refine ⟨?_, flatten_take_le bs i⟩
  show Sn.root n (bs.take i).flatten = Sn.root n (bs.flatten.take (bs.take i).flatten.length)
  rw [take_flat]
theorem first_size (rs : List Rt) (v : Nat) (h : ∃ r ∈ rs, r.size = v) : ∃ k, ∃ hk : k < rs.length, rs[k].size = v ∧ ∀ i (hi : i < rs.length), i < k → rs[i].size ≠ v := by
  obtain ⟨r, hr, hrv⟩ := h
  have hlt : rs.findIdx (fun r => decide (r.size = v)) < rs.length := List.findIdx_lt_length_of_exists ⟨r, hr, by simp [hrv]⟩
  refine ⟨rs.findIdx (fun r => decide (r.size = v)), hlt, ?_, fun i hi hik => ?_⟩
  · have := List.findIdx_getElem (w := hlt)
    simpa using this
  · have := List.not_of_lt_findIdx hik
    simpa using this
set_option maxHeartbeats 2000000 in
set_option maxRecDepth 100000 in
theorem spast_any [Inhabited LoT] (S b n : Nat) (es : List Ent) (rs : List Rt) (m v : Nat) (w : World) (hs : SnapAt S w n b es rs) (hpre : Pre n es rs) (hm : rs.length = m) (hm20 : m < 1048576) (hel : es.length < 1048576) (hv : ∃ r ∈ rs, r.size = v) :
    Calls Tryz.prog 32 #[ptr b, .int .u64 v] w fun e w' => e = .returned (.tuple #[.agg (rtCells (Sn.root n (es.take v))).toArray, .int .i64 0]) ∧ Below w.heap.size w w' := by
  obtain ⟨tb, mb, Ae, ce, Le, Ap, cp, hb, -, -, -, ⟨hp1, hp2, -⟩, hlast, hok⟩ := hs
  obtain ⟨k, hk, hyes, hno⟩ := first_size rs v hv
  have hrk := hok rs[k] (List.getElem_mem hk)
  have hpk := hpre rs[k] (List.getElem_mem hk)
  rw [hyes] at hpk
  have hve : v ≤ es.length := hpk.2
  have hsz : ∀ w', Below w.heap.size w w' → Calls Tryz.prog 47 #[ptr b] w' fun e w'' => e = .returned (.int .u64 es.length) ∧ Below w'.heap.size w' w'' := fun (w' : World) (h : Below w.heap.size w w') => ssize_any b Ap cp rs (Sn.root n es) w' (by rw [(hb.grown h).cell]; rfl) (hp1.grown h) hok hlast (by omega)
  obtain ⟨g, o, rfl, hr⟩ := hp1 (by
    intro e
    have := flatten_len 65 _ (rtRow_len hok)
    rw [e] at this
    simp [rtRow] at this; omega)
  have hix : ∀ w', Below w.heap.size w w' → ∀ B, w'.cell? ⟨B, 0, none⟩ = some (.int .u64 v) → Calls Tryz.prog 55 #[.slice (some ⟨g, o, none⟩) m cp, pastFn B] w' fun e w'' => e = .returned (.int .i64 k) ∧ Below w'.heap.size w' w'' := fun w' h B hB => idxroot_any rs hok m hm hm20 _ cp B v k (by omega) hno (fun _ => hyes) w' (hp1.grown h) hB
  have hjl : k < (rtRow rs).length := by unfold rtRow; rw [List.length_map]; exact hk
  have hp := range_part hr (rtRow_len hok) k hjl
  rw [show (rtRow rs)[k] = rtCells rs[k] by simp [rtRow]] at hp
  have hrl := rt_len hrk
  have hoc := rt_oc rs[k]
  have hrr : rtCells rs[k] = rtCells (Sn.root n (es.take v)) := by rw [← hpk.1]
  rw [hrr] at hp hrl hoc
  obtain ⟨R, hR⟩ : ∃ R, R = rtCells (Sn.root n (es.take v)) := ⟨_, rfl⟩
  rw [← hR] at hp hrl hoc ⊢
  obtain ⟨N, hN⟩ : ∃ N, N = es.length := ⟨_, rfl⟩
  rw [← hN] at hsz hve
  have hki : (0 : Int) ≤ (k : Int) ∧ (k : Int) < (m : Int) := by omega
  have hkn : ¬ (k : Int) < 0 := by omega
  have hvN : ¬ (N : Int) < (v : Int) := by omega
  have hb' : Blk w b 100 [ptr tb, ptr mb, .slice Ae es.length ce, .slice (some ⟨g, o, none⟩) m cp] := by rw [hm] at hb; exact hb
  have HA := hid (And.intro hsz (And.intro hix (And.intro hp (And.intro hb' hoc))))
  clear hsz hix hp hb hb' hoc hr hR hrr hrk hpk hyes hno hv hok hlast hp1 hp2 hpre hN hm hve hel hk
  have hB1 := (Blk.new w 38 [.int .u64 v]).alloc (.cells (.int .u64 0 :: List.replicate 64 (b8 0)).toArray 42)
  have hB2 := Blk.new (w.alloc (.cells [Value.int .u64 v].toArray 38)) 42 (.int .u64 0 :: List.replicate 64 (b8 0))
  rw [show (w.alloc (.cells [Value.int .u64 v].toArray 38)).heap.size = w.heap.size + 1 by simp] at hB2
  have HB0 := hid (And.intro hB1 (And.intro hB2 (gro (below_box w (.cells [Value.int .u64 v].toArray 38)) (below_box _ (.cells (.int .u64 0 :: List.replicate 64 (b8 0)).toArray 42)))))
  clear hB1 hB2
  go_enter Tryz.func32, Tryz.ntmps32
  go_upto_region 1 with fail
  refine wp_world (fun w' => Blk w' w.heap.size 38 [.int .u64 v] ∧ Blk w' (w.heap.size + 1) 42 (.int .u64 0 :: List.replicate 64 (b8 0)) ∧ Below w.heap.size w w') HB0.out ?_
  rintro w1 ⟨hb1, hb2, hbl⟩
  have HB := hid (And.intro hb1 (And.intro hb2 hbl))
  clear hb1 hb2 hbl HB0
  go_upto_region 3 with fail
  have HS : ∀ w', Below w1.heap.size w1 w' → w'.cell? ⟨w.heap.size, 0, none⟩ = some (.int .u64 v) := fun w' h => by rw [(HB.out.1.grown h).cell]; rfl
  have hd : Below w1.heap.size w1 w1.drew := (Below.refl _ _).drew
  have HT := hid (And.intro HS hd)
  clear HS hd
  go_region_held3 (fun w' => w'.cell? ⟨w.heap.size, 0, none⟩ = some (.int .u64 v))
    (first | exact HT.out.1 _ HT.out.2 | exact HT.out.1 _ H3.out.1)
    (first
      | (go_at_call 47
         refine (HA.out.1 _ (gro HB.out.2.2 HT.out.2)).mono ?_
         rintro e w3 ⟨rfl, hb3⟩
         have H3 := hid (And.intro (gro HT.out.2 hb3) True.intro)
         clear hb3))
  all_goals
    have q3 : w3.cell? ⟨b, 3, none⟩ = some (.slice (some ⟨g, o, none⟩) m cp) := by rw [(HA.out.2.2.2.1.grown (gro HB.out.2.2 H3.out.1)).cell]; rfl
    go_upto_region 8 with (
      (go_at_call 55
       refine (HA.out.2.1 _ (gro HB.out.2.2 H3.out.1) _ (HT.out.1 _ H3.out.1)).mono ?_
       rintro e w5 ⟨rfl, hb5⟩
       have H5 := hid (gro H3.out.1 hb5)
       clear hb5))
    have h15 := gro HB.out.2.2 H5.out
    have q5 : w5.cell? ⟨b, 3, none⟩ = some (.slice (some ⟨g, o, none⟩) m cp) := by rw [(HA.out.2.2.2.1.grown h15).cell]; rfl
    have hp5 := range_below HA.out.2.2.1 h15 (range_lt HA.out.2.2.1 (by omega))
    have ht := (HB.out.2.1.grown H5.out).there 0 65 (by simp)
    have hoc := HA.out.2.2.2.2
    have H6 := hid h15
    clear h15 q3
    go_wp2_with (first
      | ((with_reducible refine ld_mid 42 (.tmp 31) g (o + k * 65) R 65 _ hrl hp5 Tryz.underlying42 rfl (by kernel_rfl) ?_ ?_ ?_ ?_); rfl; rfl; rfl)
      | ((with_reducible refine st_mid 42 (.tmp 4) (.tmp 32) (w.heap.size + 1) 0 R 65 hrl ht (by kernel_rfl) hoc ?_ ?_ ?_ ?_ ?_); rfl; rfl; rfl; rfl))
    exact rt_cell_tmp (w.heap.size + 1) 0 R 65 _ hrl (World.rangeAt_setCells_same _ _ _ _ (by rw [hrl]; exact ht)) Tryz.underlying42 rfl (by kernel_rfl) rfl rfl rfl ⟨rfl, below_setCells _ (Nat.le_succ _) _ _ _ H6.out⟩
end Go.Proofs.YtpnakfeafekneaaGreatDoor

/- snap's Entry; the law's own SameEntry. -/
namespace Go.Proofs.YtpnakfeafekneaaGreatDoor
open Go.RowKit
set_option maxHeartbeats 1000000 in
set_option maxRecDepth 100000 in
theorem sentry_any [Inhabited LoT] (S b n : Nat) (es : List Ent) (rs : List Rt) (i : Nat) (e : Ent) (w : World) (hs : SnapAt S w n b es rs) (hrl : rs.length < 1048576) (hel : es.length < 1048576) (hi : es[i]? = some e) (hk : e.key.length < 1048576) (hv : e.val.length < 1048576) :
    Calls Tryz.prog 48 #[ptr b, .int .u64 i] w fun ee w' => ∃ y, ee = .returned (.tuple #[.agg y.toArray, .int .i64 0]) ∧ Below w.heap.size w w' ∧ EntTy w' y e := by
  obtain ⟨tb, mb, Ae, ce, Le, Ap, cp, hb, -, hm, ⟨he1, he2, -⟩, ⟨hp1, hp2, -⟩, hlast, hok⟩ := hs
  have HLO := hid (show Lo ≤ w.heap.size from Nat.le_trans hm.lo (Nat.le_of_lt hm.node.choose_spec.1.lt))
  clear hm
  have hsz : ∀ w', Below w.heap.size w w' → Calls Tryz.prog 47 #[ptr b] w' fun e w'' => e = .returned (.int .u64 es.length) ∧ Below w'.heap.size w' w'' := fun (w' : World) (h : Below w.heap.size w w') => ssize_any b Ap cp rs (Sn.root n es) w' (by rw [(hb.grown h).cell]; rfl) (hp1.grown h) hok hlast (by omega)
  have hie : i < es.length := (List.getElem?_eq_some_iff.1 hi).1
  have hil : i < Le.length := by rw [he2.len]; exact hie
  obtain ⟨g, o, rfl, hr⟩ := he1 (by
    intro e
    have := flatten_len 3 _ he2.ents.three
    rw [e] at this
    simp at this; omega)
  have hp := range_part hr he2.ents.three i hil
  have het := he2.at_ i Le[i] e (by simp [hil]) hi
  have hxl := het.len
  obtain ⟨x, hx⟩ : ∃ x, x = Le[i] := ⟨_, rfl⟩
  rw [← hx] at hp het hxl
  have htw : ∀ w', Below w.heap.size w w' → Calls Tryz.prog 71 #[.agg x.toArray] w' fun ee w'' => ∃ y, ee = .returned (.agg y.toArray) ∧ Below w'.heap.size w' w'' ∧ EntTy w'' y e := fun w' h => stwin_any x e w' (het.stay (Stay.of_grown h)).at_ hk hv (Nat.le_trans HLO.out h.size)
  obtain ⟨N, hN⟩ : ∃ N, N = es.length := ⟨_, rfl⟩
  rw [← hN] at hsz hie hb
  have hni : ¬ (N : Int) ≤ (i : Int) := by omega
  have hii : (0 : Int) ≤ (i : Int) ∧ (i : Int) < (N : Int) := by omega
  have HA := hid (And.intro hsz (And.intro htw (And.intro hp hb)))
  clear hsz htw hp hb hx het hr hil hi hk hv hok hlast hp1 hp2 he2 hN hel hrl hie
  have HB0 := hid (And.intro (Blk.new w 36 [.int .u8 0, .slice none 0 0, .slice none 0 0]) (below_box w (.cells [Value.int .u8 0, .slice none 0 0, .slice none 0 0].toArray 36)))
  go_enter Tryz.func48, Tryz.ntmps48
  go_upto_region 1 with fail
  refine wp_world (fun w' => Blk w' w.heap.size 36 [.int .u8 0, .slice none 0 0, .slice none 0 0] ∧ Below w.heap.size w w') HB0.out ?_
  rintro w1 ⟨hb1, hbl⟩
  have HB := hid (And.intro hb1 hbl)
  clear hb1 hbl HB0
  go_upto_region 5 with (
    (go_at_call 47
     refine (HA.out.1 _ HB.out.2).mono ?_
     rintro e w3 ⟨rfl, hb3⟩
     have H3 := hid hb3
     clear hb3))
  have h13 := gro HB.out.2 H3.out
  have q2 : w3.cell? ⟨b, 2, none⟩ = some (.slice (some ⟨g, o, none⟩) N ce) := by rw [(HA.out.2.2.2.grown h13).cell]; rfl
  have hp3 := range_below HA.out.2.2.1 h13 (range_lt HA.out.2.2.1 (by omega))
  have HG := hid h13
  clear h13
  go_wp2_with (first
    | ((with_reducible refine ld_mid 36 (.tmp 21) g (o + i * 3) x 3 _ hxl hp3 Tryz.underlying36 rfl (by kernel_rfl) ?_ ?_ ?_ ?_); rfl; rfl; rfl)
    | (go_at_call 71
       refine (HA.out.2.1 _ HG.out).mono ?_
       rintro e w5 ⟨y, rfl, hb5, hy⟩
       have hyl := hy.len
       have hyo := hy.oc
       have hbx := HB.out.1.grown (gro H3.out hb5)
       have ht := hbx.there 0 3 (Nat.le_refl _)
       have H5 := hid (And.intro (gro HG.out hb5) (And.intro (hy.stay (stay_sets hbx (by decide) 0 y)) True.intro))
       clear hb5 hy hbx)
    | ((with_reducible refine st_mid 36 (.tmp 4) (.tmp 23) w.heap.size 0 y 3 hyl ht (by kernel_rfl) hyo ?_ ?_ ?_ ?_ ?_); rfl; rfl; rfl; rfl))
  exact rt_cell_tmp w.heap.size 0 y 3 _ hyl (World.rangeAt_setCells_same _ _ _ _ (by rw [hyl]; exact ht)) Tryz.underlying36 rfl (by kernel_rfl) rfl rfl rfl ⟨y, rfl, below_setCells _ (Nat.le_refl _) _ _ _ H5.out.1, H5.out.2.1⟩
set_option maxHeartbeats 1000000 in
theorem sameentry_any (x y : List Value) (e : Ent) (w : World) (hx : EntAt w x e) (hy : EntAt w y e) (hk : e.key.length < 1048576) (hv : e.val.length < 1048576) :
    Calls Tryz.prog 49 #[.agg x.toArray, .agg y.toArray] w fun ee w' => ee = .returned (.bool true) ∧ Below w.heap.size w w' := by
  obtain ⟨A1, c1, A2, c2, rfl, h1, h2, -⟩ := hx
  obtain ⟨A3, c3, A4, c4, rfl, h3, h4, -⟩ := hy
  have hck : ∀ w', Below w.heap.size w w' → Calls Tryz.prog 36 #[.slice A1 e.key.length c1, .slice A3 e.key.length c3] w' fun e w'' => e = .returned (.bool true) ∧ Below w'.heap.size w' w'' := fun w' h => by
    have := same_any A1 _ c1 e.key A3 _ c3 e.key w' rfl rfl (h1.grown h) (h3.grown h) (by omega) (by omega)
    rw [beq_self_eq_true] at this; exact this
  have hcv : ∀ w', Below w.heap.size w w' → Calls Tryz.prog 36 #[.slice A2 e.val.length c2, .slice A4 e.val.length c4] w' fun e w'' => e = .returned (.bool true) ∧ Below w'.heap.size w' w'' := fun w' h => by
    have := same_any A2 _ c2 e.val A4 _ c4 e.val w' rfl rfl (h2.grown h) (h4.grown h) (by omega) (by omega)
    rw [beq_self_eq_true] at this; exact this
  obtain ⟨nk, hnk⟩ : ∃ nk, nk = e.key.length := ⟨_, rfl⟩
  obtain ⟨nv, hnv⟩ : ∃ nv, nv = e.val.length := ⟨_, rfl⟩
  rw [← hnk] at hck ⊢
  rw [← hnv] at hcv ⊢
  obtain ⟨kd, hkd⟩ : ∃ kd, kd = e.kind := ⟨_, rfl⟩
  rw [← hkd]
  have HB1 := (Blk.new w 36 [b8 kd, .slice A1 nk c1, .slice A2 nv c2]).alloc (.cells [b8 kd, .slice A3 nk c3, .slice A4 nv c4].toArray 36)
  have HB2 := Blk.new (w.alloc (.cells [b8 kd, .slice A1 nk c1, .slice A2 nv c2].toArray 36)) 36 [b8 kd, .slice A3 nk c3, .slice A4 nv c4]
  rw [show (w.alloc (.cells [b8 kd, .slice A1 nk c1, .slice A2 nv c2].toArray 36)).heap.size = w.heap.size + 1 by simp] at HB2
  have HB0 := hid (And.intro HB1 (And.intro HB2 (gro (below_box w (.cells [b8 kd, .slice A1 nk c1, .slice A2 nv c2].toArray 36)) (below_box _ (.cells [b8 kd, .slice A3 nk c3, .slice A4 nv c4].toArray 36)))))
  have HC := hid (And.intro hck hcv)
  clear hck hcv h1 h2 h3 h4 hnk hnv hkd HB1 HB2 hk hv
  go_enter Tryz.func49, Tryz.ntmps49
  go_upto_region 1 with fail
  refine wp_world (fun w' => Blk w' w.heap.size 36 [b8 kd, .slice A1 nk c1, .slice A2 nv c2] ∧ Blk w' (w.heap.size + 1) 36 [b8 kd, .slice A3 nk c3, .slice A4 nv c4] ∧ Below w.heap.size w w') HB0.out ?_
  rintro w1 ⟨hb1, hb2, hbl⟩
  have a0 : w1.cell? ⟨w.heap.size, 0, none⟩ = some (b8 kd) := by rw [hb1.cell]; rfl
  have a1 : w1.cell? ⟨w.heap.size, 1, none⟩ = some (.slice A1 nk c1) := by rw [hb1.cell]; rfl
  have d0 : w1.cell? ⟨w.heap.size + 1, 0, none⟩ = some (b8 kd) := by rw [hb2.cell]; rfl
  have d1 : w1.cell? ⟨w.heap.size + 1, 1, none⟩ = some (.slice A3 nk c3) := by rw [hb2.cell]; rfl
  have HB := hid (And.intro hb1 (And.intro hb2 hbl))
  clear hb1 hb2 hbl HB0
  go_wp2_with (first
    | (go_at_call 36
       refine (HC.out.2 _ H2.out.2.2).mono ?_
       rintro e w3 ⟨rfl, hb3⟩
       have H3 := hid (gro H2.out.2.2 hb3)
       clear hb3)
    | (go_at_call 36
       refine (HC.out.1 _ HB.out.2.2).mono ?_
       rintro e w2 ⟨rfl, hb3⟩
       have e1 : w2.cell? ⟨w.heap.size, 2, none⟩ = some (.slice A2 nv c2) := (by rw [(HB.out.1.grown hb3).cell]; rfl)
       have e2 : w2.cell? ⟨w.heap.size + 1, 2, none⟩ = some (.slice A4 nv c4) := (by rw [(HB.out.2.1.grown hb3).cell]; rfl)
       have H2 := hid (And.intro True.intro (And.intro True.intro (gro HB.out.2.2 hb3)))
       clear hb3))
  go_ret
  exact ⟨rfl, H3.out⟩
end Go.Proofs.YtpnakfeafekneaaGreatDoor
