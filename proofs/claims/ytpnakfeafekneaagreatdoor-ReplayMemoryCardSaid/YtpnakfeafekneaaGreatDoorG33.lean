/- Part 33 of this proof: VT, VU, VW, VX, VY. -/
import Derived.Test.YtpnakfeafekneaaGreatDoorG32
set_option linter.unusedSimpArgs false
set_option linter.unusedVariables false
namespace Go.Proofs.YtpnakfeafekneaaGreatDoor
open Go.RowKit
theorem ap_bytesK {ops : Array Oper} {rest : List Oper} {o : Oper} {a : Act} {w w0 : World} {Q : Exit → Act → World → Prop} (s x : Operand) {base n : Nat} {v : Value} {l : List UInt8} (hown : w.ownsRow base 5 1 v n (l.map b8)) (A : Option Addr) (m c N : Nat) (hN : N = n + m) (p : List UInt8) (hm : p.length = m) (hr : Rd w A (p.map b8))
    (hlen : n + m < 70368744177664) (hbl : Below base w0 w) (hbase : base ≤ w.heap.size)
    (hgd : o.guard = none) (ho : o.op = .call { callee := .builtin .append, args := #[s, x], argTypes := #[34, 34] }) (hs : a.eval s = v) (hx : a.eval x = .slice A m c)
    (h : ∀ A' c' w', w'.ownsRow base 5 1 (.slice A' N c') N ((l ++ p).map b8) → Below base w0 w' → But 5 w w' → wpList Tryz.prog ops Q rest (a.put o.dst (.slice A' N c')) w') : wpList Tryz.prog ops Q (o :: rest) a w := by
  subst hN
  refine ap_own s x 34 Tryz.underlying34 info_u8 rfl (by decide) hown m c (by simp [hm]) hr (one_b8 p) (by unfold maxLen; omega) (by omega) hbase hgd ho hs hx ?_
  intro v' w' h1 h2 _ _
  obtain ⟨A', c', rfl, _, _⟩ := rd_own h1
  refine h A' c' w' ?_ (grownBy_below hown hbl hbase h2) (But.append hown h2)
  rw [List.map_append]; exact h1
theorem rd_pair {w : World} {A : Option Addr} {L : List (List Value)} {ps : List Pr} (hA : Rd w A L.flatten) (hP : PairsAt w L ps) (j : Nat) (hj : j < ps.length) : ∃ g o A1 c1 A2 c2, A = some ⟨g, o, none⟩ ∧ w.rangeAt g (o + j * 2) [.slice A1 ps[j].key.length c1, .slice A2 ps[j].val.length c2] ∧ Rd w A1 (ps[j].key.map b8) ∧ Rd w A2 (ps[j].val.map b8) ∧ ps[j].key.length ≤ c1 ∧ ps[j].val.length ≤ c2 ∧ Tyd w 5 A1 ∧ Tyd w 5 A2 := by
  have hL := hP.len
  have hjl : j < L.length := by omega
  obtain ⟨g, o, rfl, hr⟩ := hA (by
    intro e
    have := flatten_len 2 _ hP.two
    rw [e] at this
    simp at this; omega)
  have hp := range_part hr hP.two j hjl
  obtain ⟨A1, c1, A2, c2, hx, h1, h2, h3, h4, h5, h6⟩ := hP.at_ j L[j] ps[j] (by simp [hjl]) (by simp [hj])
  rw [hx] at hp
  exact ⟨g, o, A1, c1, A2, c2, rfl, hp, h1, h2, h3, h4, h5.1, h6.1⟩
def bkPart (ps : List Pr) (m j : Nat) : List UInt8 := 3 :: (Wi.uvar m ++ (ps.take j).flatMap fun p => Wi.blob p.key ++ Wi.blob p.val)
theorem bkPart_next (ps : List Pr) (m j : Nat) (hj : j < ps.length) : bkPart ps m (j + 1) = (bkPart ps m j ++ Wi.blob ps[j].key) ++ Wi.blob ps[j].val := by
  unfold bkPart
  rw [List.take_succ_eq_append_getElem hj, List.flatMap_append]
  simp
theorem flatMap_take_le {α : Type} (f : α → List UInt8) (ps : List α) (j : Nat) : ((ps.take j).flatMap f).length ≤ (ps.flatMap f).length := by
  conv => rhs; rw [← List.take_append_drop j ps, List.flatMap_append, List.length_append]
  omega
set_option maxHeartbeats 2000000 in
set_option maxRecDepth 100000 in
theorem rbkin_any (A : Option Addr) (m c : Nat) (L : List (List Value)) (ps : List Pr) (w : World) (hm : ps.length = m) (hA : Rd w A L.flatten) (hP : PairsAt w L ps) (hlen : prSize ps < 2199023255552) (hn : m < 1048576) (hsz : ∀ p ∈ ps, p.key.length < 1048576 ∧ p.val.length < 1048576) :
    Calls Tryz.prog 194 #[.slice A m c] w (Nb w (Dg.bucketIn ps)) := by
  have hul := Wi.uvar_length 9 m (by omega)
  have hrd := hid (show Rd (w.alloc (.cells #[.int .u8 3] 5)) (some ⟨w.heap.size, 0, none⟩) ([(3 : UInt8)].map b8) from rd_box w 3)
  have HA := hid (And.intro hA (And.intro hP (And.intro hlen (And.intro hsz hul))))
  clear hA hP hlen hsz hul
  go_enter Tryz.func194, Tryz.ntmps194
  go_wp2_with (first
    | (go_at_call 148
       refine (join_any (some ⟨w.heap.size, 0, none⟩) 1 1 [3] A1 n1 c1 (Wi.uvar m) w1 rfl H1.out.1 H1.out.2.2.2 H1.out.2.2.1 (by have h1 := H1.out.1; have h2 := HA.out.2.2.2.2; omega)).mono ?_
       rintro e w2 ⟨A2, c2, n2, hn2, rfl, hb2, ho2⟩
       have H2 := hid (And.intro hn2 (And.intro (gro H1.out.2.1 hb2) (own_base ho2 (fun k hk => Nat.le_trans H1.out.2.1.size ((ho2.lt k hk).1)))))
       clear hn2 hb2 ho2)
    | (go_at_call 193
       refine (ruvar_any m _ (by omega)).mono ?_
       rintro e w1 ⟨A1, c1, n1, hn1, rfl, hb1, ho1⟩
       have H1 := hid (And.intro hn1 (And.intro (gro (below_box w (.cells #[.int .u8 3] 5)) hb1) (And.intro (own_rd ho1).1 (hrd.out.grown hb1))))
       clear hn1 hb1 ho1))
  go_loopg [3, 14] m (fun g s3 i wr => ∃ (j : Nat) (A' : Option Addr) (c' N : Nat), j + g = m ∧ i = .int .i64 j ∧ s3 = .slice A' N c' ∧ (bkPart ps m j).length = N ∧ wr.ownsRow w.heap.size 5 1 (.slice A' N c') N ((bkPart ps m j).map b8) ∧ Below w.heap.size w wr)
  case atStart => exact ⟨0, A2, c2, n2, by omega, rfl, rfl, by rw [← H2.out.1]; simp [bkPart], by simpa [bkPart] using H2.out.2.2, H2.out.2.1⟩
  case round =>
    clear H2 H1
    obtain ⟨j, A', c', N, hj, rfl, rfl, hNl, ho, hbl⟩ := hrel
    have hN : N < 4398046511104 := by
      have h1 := flatMap_take_le (fun p : Pr => Wi.blob p.key ++ Wi.blob p.val) ps j
      have h2 := HA.out.2.2.2.2
      have h3 := HA.out.2.2.1
      unfold prSize at h3
      rw [← hNl]; unfold bkPart; simp only [List.length_cons, List.length_append]; omega
    have HR := hid (And.intro hNl (And.intro ho hbl))
    clear hNl ho hbl
    by_cases hlt : j < m
    · have hjp : j < ps.length := by omega
      obtain ⟨g, o, B1, d1, B2, d2, rfl, hp, hr1, hr2, hc1, hc2, -, -⟩ := rd_pair HA.out.1 HA.out.2.1 j hjp
      have hsz := HA.out.2.2.2.1 ps[j] (List.getElem_mem hjp)
      have hnx := bkPart_next ps m j hjp
      obtain ⟨key, hkey⟩ : ∃ k, k = ps[j].key := ⟨_, rfl⟩
      obtain ⟨val, hval⟩ : ∃ k, k = ps[j].val := ⟨_, rfl⟩
      rw [← hkey, ← hval] at hp hsz hnx
      rw [← hkey] at hr1
      rw [← hval] at hr2
      obtain ⟨nk, hnk⟩ : ∃ nk, key.length = nk := ⟨_, rfl⟩
      obtain ⟨nv, hnv⟩ : ∃ nv, val.length = nv := ⟨_, rfl⟩
      rw [hnk, hnv] at hp hsz
      have hlb := range_lt hp (by simp)
      have hp2 := range_below hp HR.out.2.2 hlb
      have hoc : ∀ v ∈ [Value.slice B1 nk d1, .slice B2 nv d2], v.oneCell' = true := fun v hv => by
        simp only [List.mem_cons, List.not_mem_nil, or_false] at hv
        rcases hv with rfl | rfl <;> rfl
      have hbk := Blk.new wr 166 [.slice B1 nk d1, .slice B2 nv d2]
      have k0 : (wr.alloc (.cells #[.slice B1 nk d1, .slice B2 nv d2] 166)).cell? ⟨wr.heap.size, 0, none⟩ = some (.slice B1 nk d1) := by rw [show (wr.alloc (.cells #[.slice B1 nk d1, .slice B2 nv d2] 166)) = (wr.alloc (.cells [.slice B1 nk d1, .slice B2 nv d2].toArray 166)) from rfl, hbk.cell]; rfl
      have hb1 := below_box wr (.cells #[.slice B1 nk d1, .slice B2 nv d2] 166)
      have hk1 := Wi.uvar_length 9 nk (by omega)
      have hk2 := Wi.uvar_length 9 nv (by omega)
      have hbl1 : (Wi.blob key).length = (Wi.uvar nk).length + nk := by unfold Wi.blob; rw [List.length_append, hnk]
      have hbl2 : (Wi.blob val).length = (Wi.uvar nv).length + nv := by unfold Wi.blob; rw [List.length_append, hnv]
      have HX := hid (And.intro hnk (And.intro hnv (And.intro hr1 (And.intro hr2 (And.intro hbk (And.intro hb1 (And.intro hnx (And.intro (show (Wi.blob key).length < 1048600 by omega) (show (Wi.blob val).length < 1048600 by omega)))))))))
      clear hnk hnv hr1 hr2 hbk hb1 hnx hkey hval hp hc1 hc2 hk1 hk2 hbl1 hbl2 hlb
      go_wp2_with (first
        | ((with_reducible refine ld_mid 166 (.tmp 16) g (o + j * 2) _ 2 _ rfl hp2 Tryz.underlying166 rfl (by kernel_rfl) ?_ ?_ ?_ ?_); rfl; rfl; rfl)
        | ((with_reducible refine st_new 166 (.tmp 5) (.tmp 17) _ _ [.slice B1 nk d1, .slice B2 nv d2] 2 rfl ?_ (by kernel_rfl) hoc ?_ ?_ ?_ ?_ ?_); rfl; rfl; rfl; rfl; rfl)
        | (go_at_call 149
           refine (rblob_any B2 nv d2 val w3 HX.out.2.1 (HX.out.2.2.2.1.grown H3.out.2.1) (by omega)).mono ?_
           rintro e w4 ⟨A4, c4, n4, hn4, rfl, hb4, ho4⟩
           have H4 := hid (And.intro hn4 (And.intro (own_rd ho4).1 (And.intro (own_grown H3.out.1 hb4) (gro H3.out.2.1 hb4))))
           have hn4b : n4 < 1048600 := (by have := HX.out.2.2.2.2.2.2.2.2; omega)
           clear hn4 hb4 ho4)
        | (go_at_call 149
           refine (rblob_any B1 nk d1 key _ HX.out.1 (HX.out.2.2.1.grown (gro HR.out.2.2 HX.out.2.2.2.2.2.1)) (by omega)).mono ?_
           rintro e w2' ⟨A2', c2', n2', hn2, rfl, hb2, ho2⟩
           have H2 := hid (And.intro hn2 (And.intro (own_rd ho2).1 (And.intro (own_grown (own_grown HR.out.2.1 HX.out.2.2.2.2.2.1) hb2) (And.intro (gro (gro HR.out.2.2 HX.out.2.2.2.2.2.1) hb2) (HX.out.2.2.2.2.1.grown hb2)))))
           have hn2b : n2' < 1048600 := (by have := HX.out.2.2.2.2.2.2.2.1; omega)
           clear hn2 hb2 ho2)
        | ((with_reducible refine ap_bytesK (.tmp 18) (.tmp 21) H2.out.2.2.1 A2' n2' c2' (N + n2') rfl (Wi.blob key) H2.out.1 H2.out.2.1 (by omega) H2.out.2.2.2.1 H2.out.2.2.2.1.size ?_ ?_ ?_ ?_ ?_); rfl; rfl; rfl; rfl
           intro A3 c3 w3 ho3 hb3 hst3
           have k3 := hst3.blk H2.out.2.2.2.2 (by decide)
           have k1 : w3.cell? ⟨wr.heap.size, 1, none⟩ = some (.slice B2 nv d2) := (by rw [k3.cell]; rfl)
           have H3 := hid (And.intro ho3 (And.intro hb3 k3))
           clear ho3 hb3 hst3 k3)
        | ((with_reducible refine ap_bytesK (.tmp 23) (.tmp 26) H4.out.2.2.1 A4 n4 c4 (N + n2' + n4) rfl (Wi.blob val) H4.out.1 H4.out.2.1 (by omega) H4.out.2.2.2 H4.out.2.2.2.size ?_ ?_ ?_ ?_ ?_); rfl; rfl; rfl; rfl
           intro A5 c5 w5 ho5 hb5 _
           have H5 := hid (And.intro ho5 hb5)
           clear ho5 hb5))
      go_roundg (gk - 1)
      case measure => omega
      case rel =>
        refine ⟨j + 1, A5, c5, N + n2' + n4, by omega, by go_num, rfl, ?_, ?_, H5.out.2⟩
        · rw [HX.out.2.2.2.2.2.2.1, List.length_append, List.length_append, HR.out.1, H2.out.1, H4.out.1]
        · rw [HX.out.2.2.2.2.2.2.1]; exact H5.out.1
    · obtain rfl : j = m := by omega
      have hfin : Dg.bucketIn ps = bkPart ps j j := by unfold Dg.bucketIn bkPart; rw [hm, List.take_of_length_le (by omega)]
      have HF := hid hfin
      clear hfin
      go_wp2_with fail
      go_ret
      exact ⟨A', c', N, by rw [HF.out]; exact HR.out.1, rfl, HR.out.2.2, by rw [HF.out]; exact HR.out.2.1⟩
end Go.Proofs.YtpnakfeafekneaaGreatDoor

namespace Go.Proofs.YtpnakfeafekneaaGreatDoor
open Go.RowKit
theorem bkin_len (ps : List Pr) (hn : ps.length < 1048576) : (Dg.bucketIn ps).length ≤ 11 + prSize ps := by
  have := Wi.uvar_length 9 ps.length (by omega)
  unfold Dg.bucketIn prSize
  simp only [List.length_cons, List.length_append]
  omega
def brPart (n m : Nat) (ks : List (List UInt8)) (j : Nat) : List UInt8 := 4 :: (Wi.wide m 2 ++ kidCut n (ks.take j))
theorem brPart_next (n m : Nat) (ks : List (List UInt8)) (j : Nat) (hj : j < ks.length) : brPart n m ks (j + 1) = brPart n m ks j ++ ks[j].take n := by
  unfold brPart
  rw [kidCut_take n ks j hj]
  simp
theorem brPart_len (n m : Nat) (ks : List (List UInt8)) (j : Nat) (h2 : n ≤ 32) (hk : ks.length < 1048576) : (brPart n m ks j).length < 34359738368 := by
  unfold brPart
  have h1 := kidCut_len n (ks.take j)
  have h3 := Wi.wide_length m 2
  have h4 : (ks.take j).length ≤ ks.length := by simp; omega
  have h5 : n * (ks.take j).length ≤ 32 * ks.length := Nat.mul_le_mul h2 h4
  simp only [List.length_cons, List.length_append]
  omega
set_option maxHeartbeats 2000000 in
set_option maxRecDepth 100000 in
theorem rbrin_any (n : Nat) (bm : Nat) (A : Option Addr) (m c : Nat) (ks : List (List UInt8)) (w : World) (h2 : n ≤ 32) (hbm : bm < 65536) (hm : ks.length = m) (hd : ∀ d ∈ ks, d.length = 32) (hA : Rd w A (dgs ks).flatten) (hn : m < 1048576) :
    Calls Tryz.prog 196 #[.int .i64 n, .int .u16 bm, .slice A m c] w (Nb w (Dg.branchIn n bm ks)) := by
  have hrd := hid (show Rd (w.alloc (.cells #[.int .u8 4] 5)) (some ⟨w.heap.size, 0, none⟩) ([(4 : UInt8)].map b8) from rd_box w 4)
  have HA := hid (And.intro hA hd)
  clear hA hd
  go_enter Tryz.func196, Tryz.ntmps196
  go_wp2_with (first
    | (go_at_call 148
       refine (join_any (some ⟨w.heap.size, 0, none⟩) 1 1 [4] A1 n1 c1 (Wi.wide bm 2) w1 rfl H1.out.1 H1.out.2.2.2 H1.out.2.2.1 (by have h1 := H1.out.1; rw [Wi.wide_length] at h1; omega)).mono ?_
       rintro e w2 ⟨A2, c2, n2, hn2, rfl, hb2, ho2⟩
       have H2 := hid (And.intro hn2 (And.intro (gro H1.out.2.1 hb2) (own_base ho2 (fun k hk => Nat.le_trans H1.out.2.1.size ((ho2.lt k hk).1)))))
       clear hn2 hb2 ho2)
    | (go_at_call 214
       refine (rwide_any bm 2 _ (by omega) (by omega)).mono ?_
       rintro e w1 ⟨A1, c1, n1, hn1, rfl, hb1, ho1⟩
       have H1 := hid (And.intro hn1 (And.intro (gro (below_box w (.cells #[.int .u8 4] 5)) hb1) (And.intro (own_rd ho1).1 (hrd.out.grown hb1))))
       clear hn1 hb1 ho1))
  go_loopg [7, 17] m (fun g s3 i wr => ∃ (j : Nat) (A' : Option Addr) (c' N : Nat), j + g = m ∧ i = .int .i64 j ∧ s3 = .slice A' N c' ∧ (brPart n bm ks j).length = N ∧ wr.ownsRow w.heap.size 5 1 (.slice A' N c') N ((brPart n bm ks j).map b8) ∧ Below w.heap.size w wr)
  case atStart => exact ⟨0, A2, c2, n2, by omega, rfl, rfl, by rw [← H2.out.1]; simp [brPart, kidCut], by simpa [brPart, kidCut] using H2.out.2.2, H2.out.2.1⟩
  case round =>
    clear H2 H1
    obtain ⟨j, A', c', N, hj, rfl, rfl, hNl, ho, hbl⟩ := hrel
    have hN : N < 34359738368 := by rw [← hNl]; exact brPart_len n bm ks j h2 (by omega)
    have HR := hid (And.intro hNl (And.intro ho hbl))
    clear hNl ho hbl
    by_cases hlt : j < m
    · have hjp : j < ks.length := by omega
      have hl32 : ∀ x ∈ dgs ks, x.length = 32 := dgs_len HA.out.2
      have hjl : j < (dgs ks).length := by simpa [dgs] using hjp
      obtain ⟨g, o, rfl, hr⟩ := HA.out.1 (by
        intro e
        have := flatten_len 32 _ hl32
        rw [e] at this
        simp at this; omega)
      have hp := range_part hr hl32 j hjl
      have hlj : (dgs ks)[j].length = 32 := hl32 _ (List.getElem_mem hjl)
      have hej : (dgs ks)[j] = ks[j].map b8 := by simp [dgs]
      rw [hej] at hp hlj
      have hnx := brPart_next n bm ks j hjp
      obtain ⟨d, hd⟩ : ∃ d, d = ks[j] := ⟨_, rfl⟩
      rw [← hd] at hp hlj hnx
      have hlb := range_lt hp (by omega)
      have hp2 := range_below hp HR.out.2.2 hlb
      have htk : (d.take n).length = n := by rw [List.length_map] at hlj; rw [List.length_take]; omega
      have s1 := run_sliceAt_hi (P := Tryz.prog) Tryz.underlying40 (by kernel_rfl) wr.heap.size 0 n h2
      have hbx := below_box wr (.cells (d.map b8).toArray 40)
      have hrd2 : Rd (wr.alloc (.cells (d.map b8).toArray 40)) (some ⟨wr.heap.size, 0, none⟩) ((d.take n).map b8) := by rw [List.map_take]; exact (Rd.of _ (Blk.new wr 40 (d.map b8)).whole).take n
      have HX := hid (And.intro htk (And.intro hrd2 (And.intro (own_grown HR.out.2.1 hbx) (And.intro (gro HR.out.2.2 hbx) hnx))))
      clear htk hrd2 hbx hnx hd hp hlb hej hr hl32 hjl
      go_wp2_with (first
        | ((with_reducible refine ld_mid 40 (.tmp 19) g (o + j * 32) _ 32 _ hlj hp2 Tryz.underlying40 rfl (by kernel_rfl) ?_ ?_ ?_ ?_); rfl; rfl; rfl)
        | ((with_reducible refine st_new 40 (.tmp 9) (.tmp 20) _ _ (d.map b8) 32 hlj ?_ (by kernel_rfl) (one_b8 d) ?_ ?_ ?_ ?_ ?_); rfl; rfl; rfl; rfl; rfl)
        | ((with_reducible refine ap_bytes (.tmp 21) (.tmp 23) HX.out.2.2.1 (some ⟨wr.heap.size, 0, none⟩) n 32 (N + n) rfl (d.take n) HX.out.1 HX.out.2.1 (by omega) HX.out.2.2.2.1 HX.out.2.2.2.1.size ?_ ?_ ?_ ?_ ?_); rfl; rfl; rfl; rfl
           intro A5 c5 w5 ho5 hb5
           have H5 := hid (And.intro ho5 hb5)
           clear ho5 hb5))
      go_roundg (gk - 1)
      case measure => omega
      case rel =>
        refine ⟨j + 1, A5, c5, N + n, by omega, by go_num, rfl, ?_, ?_, H5.out.2⟩
        · rw [HX.out.2.2.2.2, List.length_append, HR.out.1, HX.out.1]
        · rw [HX.out.2.2.2.2]; exact H5.out.1
    · obtain rfl : j = m := by omega
      have hfin : Dg.branchIn n bm ks = brPart n bm ks j := by unfold Dg.branchIn brPart kidCut; rw [List.take_of_length_le (by omega)]
      have HF := hid hfin
      clear hfin
      go_wp2_with fail
      go_ret
      exact ⟨A', c', N, by rw [HF.out]; exact HR.out.1, rfl, HR.out.2.2, by rw [HF.out]; exact HR.out.2.1⟩
set_option maxRecDepth 100000 in
theorem rbucket_any (n : Nat) (A : Option Addr) (m c : Nat) (L : List (List Value)) (ps : List Pr) (w : World) (h2 : n ≤ 32) (hm : ps.length = m) (hA : Rd w A L.flatten) (hP : PairsAt w L ps) (hlen : prSize ps < 274877906944) (hn : m < 1048576) (hsz : ∀ p ∈ ps, p.key.length < 1048576 ∧ p.val.length < 1048576) :
    Calls Tryz.prog 151 #[.int .i64 n, .slice A m c] w fun e w' => e = .returned (dg (Dg.bucket n ps)) ∧ Below w.heap.size w w' := by
  have hl : ((Dg.bucket n ps).map b8).length = 32 := by rw [List.length_map]; exact Dg.sum_length n _ h2
  obtain ⟨D, hD⟩ : ∃ D, D = Dg.bucket n ps := ⟨_, rfl⟩
  have hD' : Dg.sum n (Dg.bucketIn ps) = D := hD.symm
  rw [← hD] at hl ⊢
  have hb0 := Blk.new w 40 (List.replicate 32 (b8 0))
  have HB0 := hid (And.intro hb0 hD')
  clear hb0 hD hD'
  go_enter Tryz.func151, Tryz.ntmps151
  go_wp2_with (first
    | (go_at_call 44
       refine (rcut_any n A1 n1 c1 (Dg.bucketIn ps) w1 h2 H1.out.1 H1.out.2.2.1 H1.out.2.2.2.1 (by have h9 := H1.out.1; have h8 := bkin_len ps (by omega); omega)).mono ?_
       rintro e w2 ⟨rfl, hb2⟩
       rw [HB0.out.2]
       have ht := ((HB0.out.1.grown H1.out.2.1).grown hb2).there 0 32 (by simp)
       have H2 := hid (gro H1.out.2.2.2.2 hb2)
       clear hb2)
    | (go_at_call 194
       refine (rbkin_any A m c L ps _ hm (hA.grown (below_box w _)) (hP.grown (below_box w _)) (by omega) hn hsz).mono ?_
       rintro e w1 ⟨A1, c1, n1, hn1, rfl, hb1, ho1⟩
       have H1 := hid (And.intro hn1 (And.intro hb1 (And.intro (own_rd ho1).1 (And.intro (own_rd ho1).2 (gro (below_box w _) hb1)))))
       clear hn1 hb1 ho1)
    | ((with_reducible refine st_mid 40 (.tmp 4) (.tmp 8) w.heap.size 0 _ 32 hl ht (by kernel_rfl) (one_b8 _) ?_ ?_ ?_ ?_ ?_); rfl; rfl; rfl; rfl))
  exact rt_cell w.heap.size 0 _ 32 _ hl (World.rangeAt_setCells_same _ _ _ _ (by rw [hl]; exact ht)) Tryz.underlying40 rfl (by kernel_rfl) rfl rfl rfl ⟨rfl, below_setCells _ (Nat.le_refl _) _ _ _ H2.out⟩
set_option maxRecDepth 100000 in
theorem rbranch_any (n : Nat) (bm : Nat) (A : Option Addr) (m c : Nat) (ks : List (List UInt8)) (w : World) (h2 : n ≤ 32) (hbm : bm < 65536) (hm : ks.length = m) (hd : ∀ d ∈ ks, d.length = 32) (hA : Rd w A (dgs ks).flatten) (hn : m < 1048576) :
    Calls Tryz.prog 154 #[.int .i64 n, .int .u16 bm, .slice A m c] w fun e w' => e = .returned (dg (Dg.branch n bm ks)) ∧ Below w.heap.size w w' := by
  have hl : ((Dg.branch n bm ks).map b8).length = 32 := by rw [List.length_map]; exact Dg.sum_length n _ h2
  obtain ⟨D, hD⟩ : ∃ D, D = Dg.branch n bm ks := ⟨_, rfl⟩
  have hD' : Dg.sum n (Dg.branchIn n bm ks) = D := hD.symm
  rw [← hD] at hl ⊢
  have hb0 := Blk.new w 40 (List.replicate 32 (b8 0))
  have HB0 := hid (And.intro hb0 hD')
  clear hb0 hD hD'
  go_enter Tryz.func154, Tryz.ntmps154
  go_wp2_with (first
    | (go_at_call 44
       refine (rcut_any n A1 n1 c1 (Dg.branchIn n bm ks) w1 h2 H1.out.1 H1.out.2.2.1 H1.out.2.2.2.1 (by have h9 := H1.out.1; have h8 := brPart_len n bm ks m h2 (by omega); rw [show brPart n bm ks m = Dg.branchIn n bm ks from by unfold Dg.branchIn brPart kidCut; rw [List.take_of_length_le (by omega)]] at h8; omega)).mono ?_
       rintro e w2 ⟨rfl, hb2⟩
       rw [HB0.out.2]
       have ht := ((HB0.out.1.grown H1.out.2.1).grown hb2).there 0 32 (by simp)
       have H2 := hid (gro H1.out.2.2.2.2 hb2)
       clear hb2)
    | (go_at_call 196
       refine (rbrin_any n bm A m c ks _ h2 hbm hm hd (hA.grown (below_box w _)) hn).mono ?_
       rintro e w1 ⟨A1, c1, n1, hn1, rfl, hb1, ho1⟩
       have H1 := hid (And.intro hn1 (And.intro hb1 (And.intro (own_rd ho1).1 (And.intro (own_rd ho1).2 (gro (below_box w _) hb1)))))
       clear hn1 hb1 ho1)
    | ((with_reducible refine st_mid 40 (.tmp 6) (.tmp 12) w.heap.size 0 _ 32 hl ht (by kernel_rfl) (one_b8 _) ?_ ?_ ?_ ?_ ?_); rfl; rfl; rfl; rfl))
  exact rt_cell w.heap.size 0 _ 32 _ hl (World.rangeAt_setCells_same _ _ _ _ (by rw [hl]; exact ht)) Tryz.underlying40 rfl (by kernel_rfl) rfl rfl rfl ⟨rfl, below_setCells _ (Nat.le_refl _) _ _ _ H2.out⟩
end Go.Proofs.YtpnakfeafekneaaGreatDoor

namespace Go.Proofs.YtpnakfeafekneaaGreatDoor
open Go.RowKit
set_option maxRecDepth 100000 in
theorem rsplit_any (n : Nat) (w : World) (h1 : 2 ≤ n) (hn : n < 1099511627776) : Calls Tryz.prog 98 #[.int .u64 n] w fun e w' => e = .returned (.int .u64 (Mt.below n)) ∧ w = w' := by
  go_enter Tryz.func98, Tryz.ntmps98
  go_wp2_with fail
  go_loopg [3] (n - 1) (fun g s3 wr => ∃ k : Nat, k + g = n ∧ 0 < k ∧ k < n ∧ s3 = .int .u64 k ∧ Hid (∃ i, k = 2 ^ i) ∧ wr = w)
  case atStart => exact ⟨1, by omega, by omega, by omega, rfl, ⟨0, rfl⟩, rfl⟩
  case round =>
    obtain ⟨k, hk, hk0, hkn, rfl, hp, rfl⟩ := hrel
    by_cases hle : k ≤ (n - 1) / 2
    · have hc : (k : Int) ≤ ((n : Int) - 1) / 2 := by omega
      go_wp2_with fail
      go_roundg (n - 2 * k)
      case measure => omega
      case rel => exact ⟨2 * k, by omega, by omega, by omega, by go_num, by obtain ⟨i, hi⟩ := hp.out; exact ⟨i + 1, by rw [hi, Nat.pow_succ]; omega⟩, rfl⟩
    · have hc : ¬ (k : Int) ≤ ((n : Int) - 1) / 2 := by omega
      have hb : Mt.below n = k := by
        obtain ⟨i, hi⟩ := hp.out
        rw [hi]; exact Mt.below_eq n i h1 (by omega) (by omega)
      have HB := hid hb
      clear hb
      go_wp2_with fail
      go_ret
      exact ⟨by rw [HB.out]; rfl, rfl⟩
theorem Mt.log_len (n : Nat) (h2 : n ≤ 32) (ds : List (List UInt8)) (hd : ∀ d ∈ ds, d.length = 32) : (Mt.log n ds).length = 32 := by
  rcases ds with _ | ⟨d, _ | ⟨d2, r⟩⟩
  · rw [Mt.log_nil]; exact Dg.sum_length n _ h2
  · rw [Mt.log_one]; exact hd d (by simp)
  · rw [Mt.log_two n _ (by simp)]; exact Dg.sum_length n _ h2
theorem range_halves {w : World} {g o : Nat} {X Y : List Value} (h : w.rangeAt g o (X ++ Y)) : w.rangeAt g o X ∧ w.rangeAt g (o + X.length) Y := by
  constructor
  · intro j v hj
    have hl : j < X.length := (List.getElem?_eq_some_iff.1 hj).1
    exact h j v (by rw [List.getElem?_append_left hl]; exact hj)
  · intro j v hj
    have := h (X.length + j) v (by rw [List.getElem?_append_right (by omega)]; simpa using hj)
    rw [Nat.add_assoc]; exact this
theorem dgs_halves (ds : List (List UInt8)) (k : Nat) : (dgs ds).flatten = (dgs (ds.take k)).flatten ++ (dgs (ds.drop k)).flatten := by
  rw [← List.flatten_append]; unfold dgs; rw [← List.map_append, List.take_append_drop]
set_option maxHeartbeats 1000000 in
set_option maxRecDepth 100000 in
theorem rlog_any (n : Nat) (h2 : n ≤ 32) (N : Nat) : ∀ (ds : List (List UInt8)), ds.length = N → ∀ (A : Option Addr) (m c : Nat) (w : World), ds.length = m → (∀ d ∈ ds, d.length = 32) → Rd w A (dgs ds).flatten → m ≤ c → m < 1048576 →
    Calls Tryz.prog 61 #[.int .i64 n, .slice A m c] w fun e w' => e = .returned (dg (Mt.log n ds)) ∧ Below w.heap.size w w' := by
  induction N using Nat.strongRecOn with
  | _ N ih =>
    intro ds hN A m c w hm hd hA hc hm20
    have hll := Mt.log_len n h2 ds hd
    have hl : ((Mt.log n ds).map b8).length = 32 := by rw [List.length_map, hll]
    have hb0 := Blk.new w 40 (List.replicate 32 (b8 0))
    have hbl := below_box w (.cells (List.replicate 32 (b8 0)).toArray 40)
    have ht0 := hb0.there 0 32 (by simp)
    have HI := hid ih
    have HB := hid (And.intro hb0 hbl)
    have HA := hid (And.intro hN (And.intro hm (And.intro hd hA)))
    clear ih hb0 hbl hN hm hd hA hll
    rcases Nat.lt_or_ge m 2 with hm2 | hm2
    · rcases Nat.lt_or_ge m 1 with hm1 | hm1
      · obtain rfl : m = 0 := by omega
        obtain rfl : ds = [] := List.length_eq_zero_iff.1 HA.out.2.1
        rw [Mt.log_nil] at hl ⊢
        obtain ⟨D, hD⟩ : ∃ D, D = Dg.noLog n := ⟨_, rfl⟩
        rw [← hD] at hl ⊢
        have HD := hid hD
        clear hD ht0
        go_enter Tryz.func61, Tryz.ntmps61
        go_wp2_with (first
          | (go_at_call 97
             refine (rnolog_any n _ h2).mono ?_
             rintro e w2 ⟨rfl, hb2⟩
             rw [← HD.out]
             have ht := (HB.out.1.grown hb2).there 0 32 (by simp)
             have H2 := hid (gro HB.out.2 hb2)
             clear hb2)
          | ((with_reducible refine st_mid 40 (.tmp 4) (.tmp 11) w.heap.size 0 _ 32 hl ht (by kernel_rfl) (one_b8 _) ?_ ?_ ?_ ?_ ?_); rfl; rfl; rfl; rfl))
        exact rt_cell w.heap.size 0 _ 32 _ hl (World.rangeAt_setCells_same _ _ _ _ (by rw [hl]; exact ht)) Tryz.underlying40 rfl (by kernel_rfl) rfl rfl rfl ⟨rfl, below_setCells _ (Nat.le_refl _) _ _ _ H2.out⟩
      · obtain rfl : m = 1 := by omega
        obtain ⟨d, rfl⟩ := List.length_eq_one_iff.1 HA.out.2.1
        rw [Mt.log_one] at hl ⊢
        obtain ⟨g, o, rfl, hr⟩ := HA.out.2.2.2 (by
          intro e
          have h1 : (dgs [d]).flatten = d.map b8 := by simp [dgs]
          rw [h1] at e; rw [e] at hl; simp at hl)
        rw [show (dgs [d]).flatten = d.map b8 from by simp [dgs]] at hr
        have hp0 := range_grown hr HB.out.2
        have HP := hid (And.intro hp0 (And.intro ht0 HB.out.2))
        clear hr hp0 ht0
        go_enter Tryz.func61, Tryz.ntmps61
        go_upto_region 5 with fail
        refine wp_world (fun w' => w'.rangeAt g o (d.map b8) ∧ w'.there w.heap.size 0 32 ∧ Below w.heap.size w w') HP.out ?_
        rintro w1 ⟨hp, ht0, hbl⟩
        have HBl := hid hbl
        clear hbl HP
        go_wp2_with (first
          | ((with_reducible refine ld_mid 40 (.tmp 15) g o _ 32 _ hl hp Tryz.underlying40 rfl (by kernel_rfl) ?_ ?_ ?_ ?_); rfl; rfl; rfl)
          | ((with_reducible refine st_mid 40 (.tmp 4) (.tmp 16) w.heap.size 0 _ 32 hl ht0 (by kernel_rfl) (one_b8 _) ?_ ?_ ?_ ?_ ?_); rfl; rfl; rfl; rfl))
        exact rt_cell w.heap.size 0 _ 32 _ hl (World.rangeAt_setCells_same _ _ _ _ (by rw [hl]; exact ht0)) Tryz.underlying40 rfl (by kernel_rfl) rfl rfl rfl ⟨rfl, below_setCells _ (Nat.le_refl _) _ _ _ HBl.out⟩
    · have hm0 : ¬ (m : Int) = 0 := by omega
      have hm1 : ¬ (m : Int) = 1 := by omega
      have hk1 := Mt.below_lt m hm2
      have hk0 := Mt.below_pos m
      have hlog := Mt.log_two n ds (by rw [HA.out.2.1]; exact hm2)
      rw [HA.out.2.1] at hlog
      obtain ⟨k, hk⟩ : ∃ k, k = Mt.below m := ⟨_, rfl⟩
      rw [← hk] at hk1 hk0 hlog
      have hX : ∀ d ∈ ds.take k, d.length = 32 := fun d h => HA.out.2.2.1 d (List.mem_of_mem_take h)
      have hY : ∀ d ∈ ds.drop k, d.length = 32 := fun d h => HA.out.2.2.1 d (List.mem_of_mem_drop h)
      have hXl : (ds.take k).length = k := by rw [List.length_take, HA.out.2.1]; omega
      have hYl : (ds.drop k).length = m - k := by rw [List.length_drop, HA.out.2.1]
      obtain ⟨g, o, rfl, hr⟩ := HA.out.2.2.2 (by
        intro e
        have := flatten_len 32 _ (dgs_len HA.out.2.2.1)
        rw [e, show (dgs ds).length = m from by simp [dgs, HA.out.2.1]] at this
        simp at this; omega)
      rw [dgs_halves ds k] at hr
      obtain ⟨hr1, hr2⟩ := range_halves hr
      rw [flatten_len 32 _ (dgs_len hX), show (dgs (ds.take k)).length = k from by simp only [dgs, List.length_map]; exact hXl] at hr2
      obtain ⟨X, hXe⟩ : ∃ X, X = Mt.log n (ds.take k) := ⟨_, rfl⟩
      obtain ⟨Y, hYe⟩ : ∃ Y, Y = Mt.log n (ds.drop k) := ⟨_, rfl⟩
      have hX32 : X.length = 32 := by rw [hXe]; exact Mt.log_len n h2 _ hX
      have hY32 : Y.length = 32 := by rw [hYe]; exact Mt.log_len n h2 _ hY
      rw [← hXe, ← hYe] at hlog
      have s1 := run_slice_to (P := Tryz.prog) Tryz.underlying105 (e := 40) (size := 32) (by kernel_rfl) g o m c k (by omega)
      have s2 := run_slice_from (P := Tryz.prog) Tryz.underlying105 (e := 40) (size := 32) (by kernel_rfl) g o m c k (by omega) (by omega)
      obtain ⟨o2, ho2⟩ : ∃ o2, o2 = o + k * 32 := ⟨_, rfl⟩
      obtain ⟨m2, hm2'⟩ : ∃ m2, m2 = m - k := ⟨_, rfl⟩
      obtain ⟨c2, hc2⟩ : ∃ c2, c2 = c - k := ⟨_, rfl⟩
      rw [← ho2] at hr2
      rw [← ho2, ← hm2', ← hc2] at s2
      have hcx : ∀ w', Below w.heap.size w w' → Calls Tryz.prog 61 #[.int .i64 n, .slice (some ⟨g, o, none⟩) k c] w' fun e w'' => e = .returned (dg X) ∧ Below w'.heap.size w' w'' := fun w' hb => by
        rw [hXe]; exact HI.out k (by have := HA.out.1; have := HA.out.2.1; omega) (ds.take k) hXl _ k c w' hXl hX ((Rd.of _ hr1).grown hb) (by omega) (by omega)
      have hcy : ∀ w', Below w.heap.size w w' → Calls Tryz.prog 61 #[.int .i64 n, .slice (some ⟨g, o2, none⟩) m2 c2] w' fun e w'' => e = .returned (dg Y) ∧ Below w'.heap.size w' w'' := fun w' hb => by
        rw [hYe, hm2']; exact HI.out (m - k) (by have := HA.out.1; have := HA.out.2.1; omega) (ds.drop k) hYl _ (m - k) c2 w' hYl hY ((Rd.of _ hr2).grown hb) (by omega) (by omega)
      obtain ⟨D, hD⟩ : ∃ D, D = Mt.log n ds := ⟨_, rfl⟩
      rw [← hD] at hl hlog ⊢
      have HC := hid (And.intro hcx (And.intro hcy (And.intro hlog (And.intro hX32 hY32))))
      have HK := hid hk
      clear hcx hcy hlog hX32 hY32 hXe hYe hD hk hr hr1 hr2 hX hY hXl hYl ho2 hm2' hc2 HI
      go_enter Tryz.func61, Tryz.ntmps61
      go_upto_region 7 with (first
        | (go_at_call 98
           refine (rsplit_any m _ hm2 (by omega)).mono ?_
           rintro e w2 ⟨rfl, rfl⟩
           rw [← HK.out]))
      refine wp_world (fun w' => Blk w' w.heap.size 40 (List.replicate 32 (b8 0)) ∧ Below w.heap.size w w') HB.out ?_
      rintro w1 ⟨hb1, hbl1⟩
      have H1 := hid (And.intro hb1 hbl1)
      clear hb1 hbl1 HB ht0
      refine wp_region_fut_tail 12 (by kernel_rfl) (by kernel_rfl) ?_
      dsimp only [List.take_succ_cons, List.take_zero, List.drop_succ_cons, List.drop_zero]
      repeat go_big_quiet_step (first
        | (with_reducible exact Calls.fut_of (HC.out.1 _ (gro H1.out.2 (Fut.below _))))
        | (with_reducible exact Calls.fut_of (HC.out.2.1 _ (gro H1.out.2 (Fut.below _))))
        | (with_reducible exact Calls.fut_of (rnode_any n X Y _ h2 HC.out.2.2.2.1 HC.out.2.2.2.2)))
      refine wpQuiet_nil ?_
      rintro _ ⟨s, rfl⟩
      have ht := (H1.out.1.grown s.below).there 0 32 (by simp)
      have hbs := gro H1.out.2 s.below
      rw [← HC.out.2.2.1]
      (refine st_mid 40 (.tmp 4) (.tmp 33) w.heap.size 0 _ 32 hl ht (by kernel_rfl) (one_b8 _) ?_ ?_ ?_ ?_ ?_); rfl; rfl; rfl; rfl
      go_wp2_with fail
      exact rt_cell w.heap.size 0 _ 32 _ hl (World.rangeAt_setCells_same _ _ _ _ (by rw [hl]; exact ht)) Tryz.underlying40 rfl (by kernel_rfl) rfl rfl rfl ⟨rfl, below_setCells _ (Nat.le_refl _) _ _ _ hbs⟩
end Go.Proofs.YtpnakfeafekneaaGreatDoor

namespace Go.Proofs.YtpnakfeafekneaaGreatDoor
open Go.RowKit
theorem info_dgr : (Tryz.prog.info? 40).map (fun i => (i.zero, i.size, i.bytes)) = some (some (.agg (List.replicate 32 (.int .u8 0)).toArray), 32, 32) := by kernel_rfl
theorem en_bytes_len (e : Ent) (hk : e.key.length < 1048576) (hv : e.val.length < 1048576) : (En.bytes e).length < 4194304 := by
  have h1 := Wi.uvar_length 9 e.key.length (by omega)
  have h2 := Wi.uvar_length 9 e.val.length (by omega)
  unfold En.bytes Wi.blob
  split <;> simp only [List.length_cons, List.length_append, List.length_nil] <;> omega
theorem leaves_take (n : Nat) (es : List Ent) (j : Nat) (hj : j < es.length) : (dgs (Sn.leaves n (es.take (j + 1)))).flatten = (dgs (Sn.leaves n (es.take j))).flatten ++ (Dg.leaf n (En.bytes es[j])).map b8 := by
  unfold Sn.leaves dgs
  rw [List.take_succ_eq_append_getElem hj, List.map_append, List.map_append, List.flatten_append, List.map_singleton, List.map_singleton, List.flatten_singleton]
theorem leaf_len (n : Nat) (h2 : n ≤ 32) (p : List UInt8) : (Dg.leaf n p).length = 32 := Dg.sum_length n _ h2
set_option maxHeartbeats 2000000 in
set_option maxRecDepth 100000 in
theorem rleaves_any (n : Nat) (h2 : n ≤ 32) (es : List Ent) (A : Option Addr) (m c : Nat) (L : List (List Value)) (w : World) (hm : es.length = m) (hA : Rd w A L.flatten) (hE : EntsAt w L es) (hn : m < 1048576) (hb : ∀ e ∈ es, e.key.length < 1048576 ∧ e.val.length < 1048576) :
    Calls Tryz.prog 62 #[.int .i64 n, .slice A m c] w fun e w' => ∃ Ar cr, e = .returned (.slice Ar m cr) ∧ Below w.heap.size w w' ∧ Rd w' Ar (dgs (Sn.leaves n es)).flatten ∧ m ≤ cr := by
  have HA := hid (And.intro hA (And.intro hE hb))
  clear hA hE hb
  go_enter Tryz.func62, Tryz.ntmps62
  go_wp2_with fail
  go_loopg [5, 10] m (fun g s3 i wr => ∃ (j : Nat) (Ar : Option Addr) (cr : Nat), j + g = m ∧ i = .int .i64 j ∧ s3 = .slice Ar j cr ∧ wr.ownsRow w.heap.size 40 32 (.slice Ar j cr) j (dgs (Sn.leaves n (es.take j))).flatten ∧ Below w.heap.size w wr)
  case atStart => exact ⟨0, none, 0, by omega, rfl, rfl, World.ownsRow_nil _ _ _ _, Below.refl _ _⟩
  case round =>
    obtain ⟨j, Ar, cr, hj, rfl, rfl, ho, hbl⟩ := hrel
    have HR := hid (And.intro ho hbl)
    clear ho hbl
    by_cases hlt : j < m
    · have hje : j < es.length := by omega
      have hnx := leaves_take n es j hje
      obtain ⟨kind, key, val, hjj⟩ : ∃ kind key val, es[j]? = some ⟨kind, key, val⟩ := ⟨es[j].kind, es[j].key, es[j].val, by simp [hje]⟩
      rw [(List.getElem?_eq_some_iff.1 hjj).2] at hnx
      have hL := HA.out.2.1.len
      have hjl : j < L.length := by omega
      obtain ⟨g, o, rfl, hr⟩ := HA.out.1 (by
        intro e
        have := flatten_len 3 _ HA.out.2.1.three
        rw [e] at this
        simp at this; omega)
      have hp := range_part hr HA.out.2.1.three j hjl
      have hbk := HA.out.2.2 _ (List.mem_of_getElem? hjj)
      obtain ⟨A1, c1', A2, c2', hx, hr1, hr2, hc1, hc2⟩ := HA.out.2.1.at_ j L[j] ⟨kind, key, val⟩ (by simp [hjl]) hjj
      rw [hx] at hp
      simp only [] at hp
      have hlb := range_lt hp (by simp)
      have hp2 := range_below hp HR.out.2 hlb
      have hea : EntAt w [b8 kind, .slice A1 key.length c1', .slice A2 val.length c2'] ⟨kind, key, val⟩ := ⟨A1, c1', A2, c2', rfl, hr1, hr2, hc1, hc2⟩
      have hoc : ∀ v ∈ [b8 kind, .slice A1 key.length c1', .slice A2 val.length c2'], v.oneCell' = true := fun v hv => by
        simp only [List.mem_cons, List.not_mem_nil, or_false] at hv
        rcases hv with rfl | rfl | rfl <;> rfl
      have hp9 := (Blk.new wr 36 [b8 kind, .slice A1 key.length c1', .slice A2 val.length c2']).whole
      have HB := hid (below_box wr (.cells [b8 kind, .slice A1 key.length c1', .slice A2 val.length c2'].toArray 36))
      have HX := hid (And.intro hea (And.intro hbk hnx))
      have h63 : j + 1 ≤ maxLen := by simp only [maxLen]; omega
      have hby : (j + 1) * 32 ≤ 140737488355328 := by omega
      clear hr hr1 hr2 hx hp hc1 hc2 hL hlb hea hbk hnx
      go_wp2_with (first
        | ((with_reducible refine ld_mid 36 (.tmp 12) g (o + j * 3) _ 3 _ rfl hp2 Tryz.underlying36 rfl (by kernel_rfl) ?_ ?_ ?_ ?_); rfl; rfl; rfl)
        | ((with_reducible refine st_new 36 (.tmp 7) (.tmp 13) _ _ [b8 kind, .slice A1 key.length c1', .slice A2 val.length c2'] 3 rfl ?_ (by kernel_rfl) hoc ?_ ?_ ?_ ?_ ?_); rfl; rfl; rfl; rfl; rfl)
        | ((with_reducible refine ld_mid 36 (.tmp 7) wr.heap.size 0 _ 3 _ rfl hp9 Tryz.underlying36 rfl (by kernel_rfl) ?_ ?_ ?_ ?_); rfl; rfl; rfl)
        | (go_at_call 100
           refine (rleaf_any n A6 n6 c6 (En.bytes ⟨kind, key, val⟩) w6 h2 H6.out.1 H6.out.2.1 (by have h1 := en_bytes_len ⟨kind, key, val⟩ HX.out.2.1.1 HX.out.2.1.2; have h3 := H6.out.1; omega)).mono ?_
           rintro e w7 ⟨rfl, hb7⟩
           obtain ⟨D, hD⟩ : ∃ D, D = Dg.leaf n (En.bytes ⟨kind, key, val⟩) := ⟨_, rfl⟩
           rw [← hD]
           have hDl : D.length = 32 := (by rw [hD]; exact leaf_len n h2 _)
           have hyl : ∀ x ∈ [D.map b8], x.length = 32 := (fun x hx => by rw [List.mem_singleton] at hx; subst hx; simp [hDl])
           have hyl2 : [D.map b8].flatten.length = 1 * 32 := (by simp [hDl])
           have hyo : ∀ v ∈ [D.map b8].flatten, v.oneCell' = true := (fun v hv => one_b8 D v (by simpa using hv))
           have hb8 := gro (gro H6.out.2.2 hb7) (below_box w7 (.cells [D.map b8].flatten.toArray 40))
           have own8 := own_grown HR.out.1 hb8
           have hr8 := Rd.of _ (Blk.new w7 40 [D.map b8].flatten).whole
           have hbs8 := (gro HR.out.2 hb8).size
           have H8 := hid (And.intro hb8 (And.intro own8 (And.intro hr8 hD)))
           clear hb7 hb8 own8 hr8 hD hDl)
        | (go_at_call 101
           refine (rbytes_any _ ⟨kind, key, val⟩ _ (HX.out.1.grown (gro HR.out.2 HB.out)) HX.out.2.1.1 HX.out.2.1.2).mono ?_
           rintro e w6 ⟨A6, c6, n6, hn6, rfl, hb6, ho6⟩
           have H6 := hid (And.intro hn6 (And.intro (own_rd ho6).1 (gro HB.out hb6)))
           clear hn6 hb6 ho6)
        | ((with_reducible refine bs_own 105 40 1 #[(0, .tmp 18)] [D.map b8] 32 (by decide) hyl rfl (by decide) (by decide) Tryz.underlying105 (by kernel_rfl) ?_ ?_ ?_ ?_); rfl; rfl; rfl)
        | ((with_reducible refine ap_own (.tmp 14) (.tmp 19) 105 Tryz.underlying105 info_dgr rfl (by decide) H8.out.2.1 1 1 hyl2 H8.out.2.2.1 hyo h63 hby hbs8 ?_ ?_ ?_ ?_ ?_); rfl; rfl; rfl; rfl
           intro v9 w9 hn1 hn2 hn3 hn4
           obtain ⟨A9, c9, rfl, hr9, hc9⟩ := rd_own hn1
           have hb9 := grownBy_below H8.out.2.1 (gro HR.out.2 H8.out.1) hbs8 hn2
           have H9 := hid (And.intro hn1 hb9)
           clear hn1 hn2 hn3 hn4 hr9 hc9 hb9))
      go_roundg (gk - 1)
      case measure => omega
      case rel =>
        refine ⟨j + 1, A9, c9, by omega, by go_num, rfl, ?_, H9.out.2⟩
        rw [HX.out.2.2, ← H8.out.2.2.2]
        have := H9.out.1
        simpa using this
    · obtain rfl : j = m := by omega
      have hel := HR.out.1
      rw [← hm, List.take_length, hm] at hel
      have h9 := own_rd hel
      have HE9 := hid h9
      clear hel h9
      go_wp2_with fail
      go_ret
      exact ⟨Ar, cr, rfl, HR.out.2, HE9.out.1, HE9.out.2⟩
end Go.Proofs.YtpnakfeafekneaaGreatDoor

namespace Go.Proofs.YtpnakfeafekneaaGreatDoor
open Go.RowKit
namespace Lx
def less : List UInt8 → List UInt8 → Int
  | [], b => -(b.length : Int)
  | a :: r, [] => ((a :: r).length : Int)
  | x :: xs, y :: ys => if x = y then less xs ys else n8 x - n8 y
theorem cmpB_less {x y : UInt8} (h : x ≠ y) : (n8 x - n8 y < 0 ↔ cmpB x y < 0) ∧ cmpB x y ≠ 0 ∧ n8 x - n8 y ≠ 0 := by
  have h1 : n8 x ≠ n8 y := fun e => h (n8_inj e)
  have h2 : x < y ↔ n8 x < n8 y := by unfold n8; rw [UInt8.lt_iff_toNat_lt]; omega
  have h3 : y < x ↔ n8 y < n8 x := by unfold n8; rw [UInt8.lt_iff_toNat_lt]; omega
  unfold cmpB
  split
  · rename_i hh; have := h2.1 hh; exact ⟨by omega, by omega, by omega⟩
  · rename_i hh
    split
    · rename_i hh2; have := h3.1 hh2; exact ⟨by omega, by omega, by omega⟩
    · rename_i hh2; exfalso; have a1 : ¬ n8 x < n8 y := fun h => hh (h2.2 h); have a2 : ¬ n8 y < n8 x := fun h => hh2 (h3.2 h); omega
theorem less_cmp : ∀ (a b : List UInt8), (less a b < 0 ↔ cmp a b < 0) ∧ (less a b = 0 ↔ cmp a b = 0)
  | [], [] => by simp [less, cmp]
  | [], _ :: _ => by simp [less, cmp]; omega
  | _ :: _, [] => by simp [less, cmp]; omega
  | x :: xs, y :: ys => by
    unfold less cmp
    by_cases h : x = y
    · subst h; rw [if_pos rfl, cmpB_self]; simpa using less_cmp xs ys
    · obtain ⟨h1, h2, h3⟩ := cmpB_less h
      rw [if_neg h, if_pos h2]
      exact ⟨h1, ⟨fun e => absurd e h3, fun e => absurd e h2⟩⟩
theorem less_bound : ∀ (a b : List UInt8), -(b.length : Int) - 256 < less a b ∧ less a b < (a.length : Int) + 256
  | [], b => by simp [less]; omega
  | a :: r, [] => by simp [less]; omega
  | x :: xs, y :: ys => by
    unfold less
    have h1 := n8_lt x; have h2 := n8_nonneg x; have h3 := n8_lt y; have h4 := n8_nonneg y
    split
    · have := less_bound xs ys; simp only [List.length_cons]; omega
    · simp only [List.length_cons]; omega
theorem less_drop {a b : List UInt8} {j : Nat} (h1 : j < a.length) (h2 : j < b.length) : less (a.drop j) (b.drop j) = if a[j] = b[j] then less (a.drop (j + 1)) (b.drop (j + 1)) else n8 a[j] - n8 b[j] := by
  rw [List.drop_eq_getElem_cons h1, List.drop_eq_getElem_cons h2, less]
theorem less_end {a b : List UInt8} {j : Nat} (h0 : j ≤ a.length) (h1 : j ≤ b.length) (h : j = a.length ∨ j = b.length) : less (a.drop j) (b.drop j) = (a.length : Int) - b.length := by
  rcases h with rfl | rfl
  · rw [List.drop_length]; simp only [less, List.length_drop]; omega
  · rw [List.drop_length]
    by_cases e : a.length = b.length
    · rw [List.drop_of_length_le (by omega)]; simp [less, e]
    · have : 0 < (a.drop b.length).length := by rw [List.length_drop]; omega
      obtain ⟨x, r, hx⟩ := List.exists_cons_of_length_pos this
      have hl : (a.drop b.length).length = a.length - b.length := List.length_drop
      rw [hx] at hl ⊢
      simp only [less]; rw [hl]; omega
end Lx
theorem wrap_small (x : Int) (h1 : -1024 ≤ x) (h2 : x < 1024) : wrap64 x = x := by unfold wrap64; omega
theorem wrap_diff (x y : UInt8) : wrap64 (wrap64 (n8 x) - wrap64 (n8 y)) = n8 x - n8 y := by
  have h1 := n8_lt x; have h2 := n8_nonneg x; have h3 := n8_lt y; have h4 := n8_nonneg y
  rw [wrap_small (n8 x) (by omega) (by omega), wrap_small (n8 y) (by omega) (by omega), wrap_small _ (by omega) (by omega)]
set_option maxRecDepth 100000 in
theorem same_any (A1 : Option Addr) (n1 c1 : Nat) (l1 : List UInt8) (A2 : Option Addr) (n2 c2 : Nat) (l2 : List UInt8) (w : World) (hn1 : l1.length = n1) (hn2 : l2.length = n2) (h1 : Rd w A1 (l1.map b8)) (h2 : Rd w A2 (l2.map b8)) (hl : n1 < 1099511627776) (hl2 : n2 < 1099511627776) :
    Calls Tryz.prog 36 #[.slice A1 n1 c1, .slice A2 n2 c2] w fun e w' => e = .returned (.bool (l1 == l2)) ∧ Below w.heap.size w w' := by
  have HA := hid (And.intro hn1 (And.intro hn2 (And.intro h1 h2)))
  clear hn1 hn2 h1 h2
  by_cases hne : n1 = n2
  · subst hne
    go_enter Tryz.func36, Tryz.ntmps36
    go_wp2_with fail
    go_loopg [13] n1 (fun g i wr => ∃ j : Nat, j + g = n1 ∧ i = .int .i64 j ∧ l1.take j = l2.take j ∧ Below w.heap.size w wr)
    case atStart => exact ⟨0, by omega, rfl, rfl, Below.refl _ _⟩
    case round =>
      obtain ⟨j, hj, rfl, he, hb⟩ := hrel
      have HI := hid (And.intro he hb)
      clear he hb
      by_cases hlt : j < n1
      · have hj1 : j < l1.length := by rw [HA.out.1]; exact hlt
        have hj2 : j < l2.length := by rw [HA.out.2.1]; exact hlt
        obtain ⟨g1, o1, rfl, hr1⟩ := HA.out.2.2.1 (by intro e; rw [← List.length_map (f := b8), e] at hj1; simp at hj1)
        obtain ⟨g2, o2, rfl, hr2⟩ := HA.out.2.2.2 (by intro e; rw [← List.length_map (f := b8), e] at hj2; simp at hj2)
        obtain ⟨x, hx⟩ : ∃ x, x = l1[j] := ⟨_, rfl⟩
        obtain ⟨y, hy⟩ : ∃ y, y = l2[j] := ⟨_, rfl⟩
        have hlb1 := range_lt hr1 (by simp; omega)
        have hlb2 := range_lt hr2 (by simp; omega)
        have q1 := Fut.cell (range_below hr1 HI.out.2 hlb1 j (b8 x) (by simp [hj1, hx]))
        have q2 := Fut.cell (range_below hr2 HI.out.2 hlb2 j (b8 y) (by simp [hj2, hy]))
        have HX := hid (And.intro hx hy)
        clear hx hy hr1 hr2 hlb1 hlb2
        go_upto_region 6 with fail
        refine wp_region_fut (by kernel_rfl) (by kernel_rfl) ?_
        repeat go_big_quiet_step (fail)
        refine wpQuiet_nil ?_
        rintro _ ⟨s, rfl⟩
        clear q1 q2
        by_cases hxy : x = y
        · subst hxy
          go_wp2_with fail
          go_roundg (gk - 1)
          case measure => omega
          case rel => exact ⟨j + 1, by omega, by go_num, by rw [List.take_succ_eq_append_getElem hj1, List.take_succ_eq_append_getElem hj2, HI.out.1, ← HX.out.1, ← HX.out.2], gro HI.out.2 s.below⟩
        · have hne2 : l1 ≠ l2 := fun e => hxy (by rw [HX.out.1, HX.out.2]; simp only [e])
          have HN := hid hne2
          clear hne2
          rw [show (n8 x != n8 y) = true from by simpa using fun e => hxy (n8_inj e)]
          go_wp2_with fail
          go_ret
          exact ⟨by rw [show (l1 == l2) = false from by simpa using HN.out]; rfl, gro HI.out.2 s.below⟩
      · obtain rfl : j = n1 := by omega
        have he := HI.out.1
        rw [List.take_of_length_le (by rw [HA.out.1]; exact Nat.le_refl _), List.take_of_length_le (by rw [HA.out.2.1]; exact Nat.le_refl _)] at he
        have HE := hid he
        clear he
        go_wp2_with fail
        go_ret
        exact ⟨by rw [HE.out]; simp, HI.out.2⟩
  · have hf : (l1 == l2) = false := by
      have : l1 ≠ l2 := fun e => hne (by rw [← HA.out.1, ← HA.out.2.1, e])
      simpa using this
    have HF := hid hf
    clear hf
    have hni : ¬ (n1 : Int) = (n2 : Int) := by omega
    go_enter Tryz.func36, Tryz.ntmps36
    go_wp2_with fail
    go_ret
    exact ⟨by rw [HF.out]; rfl, Below.refl _ _⟩
set_option maxRecDepth 100000 in
theorem less_any (A1 : Option Addr) (n1 c1 : Nat) (l1 : List UInt8) (A2 : Option Addr) (n2 c2 : Nat) (l2 : List UInt8) (w : World) (hn1 : l1.length = n1) (hn2 : l2.length = n2) (h1 : Rd w A1 (l1.map b8)) (h2 : Rd w A2 (l2.map b8)) (hl : n1 < 1099511627776) (hl2 : n2 < 1099511627776) :
    Calls Tryz.prog 198 #[.slice A1 n1 c1, .slice A2 n2 c2] w fun e w' => e = .returned (.int .i64 (Lx.less l1 l2)) ∧ Below w.heap.size w w' := by
  have HA := hid (And.intro hn1 (And.intro hn2 (And.intro h1 h2)))
  clear hn1 hn2 h1 h2
  go_enter Tryz.func198, Tryz.ntmps198
  go_wp2_with fail
  go_loopg [5] n1 (fun g i wr => ∃ j : Nat, j + g = n1 ∧ j ≤ n2 ∧ i = .int .i64 j ∧ Lx.less l1 l2 = Lx.less (l1.drop j) (l2.drop j) ∧ Below w.heap.size w wr)
  case atStart => exact ⟨0, by omega, by omega, rfl, rfl, Below.refl _ _⟩
  case round =>
    obtain ⟨j, hj, hjn2, rfl, he, hb⟩ := hrel
    have HI := hid (And.intro he hb)
    clear he hb
    by_cases hlt : j < n1 ∧ j < n2
    · obtain ⟨hlt1, hlt2⟩ := hlt
      have hj1 : j < l1.length := by rw [HA.out.1]; exact hlt1
      have hj2 : j < l2.length := by rw [HA.out.2.1]; exact hlt2
      obtain ⟨g1, o1, rfl, hr1⟩ := HA.out.2.2.1 (by intro e; rw [← List.length_map (f := b8), e] at hj1; simp at hj1)
      obtain ⟨g2, o2, rfl, hr2⟩ := HA.out.2.2.2 (by intro e; rw [← List.length_map (f := b8), e] at hj2; simp at hj2)
      have hld := Lx.less_drop hj1 hj2
      obtain ⟨x, hx⟩ : ∃ x, x = l1[j] := ⟨_, rfl⟩
      obtain ⟨y, hy⟩ : ∃ y, y = l2[j] := ⟨_, rfl⟩
      rw [← hx, ← hy, ← HI.out.1] at hld
      have hlb1 := range_lt hr1 (by simp; omega)
      have hlb2 := range_lt hr2 (by simp; omega)
      have p1 := (range_below hr1 HI.out.2 hlb1 j (b8 x) (by simp [hj1, hx]))
      have p2 := (range_below hr2 HI.out.2 hlb2 j (b8 y) (by simp [hj2, hy]))
      have q1 := Fut.cell p1
      have q2 := Fut.cell p2
      have HX := hid (And.intro hld (And.intro p1 p2))
      clear hx hy hr1 hr2 hlb1 hlb2 hld p1 p2
      go_upto_region 4 with fail
      refine wp_region_fut (by kernel_rfl) (by kernel_rfl) ?_
      repeat go_big_quiet_step (fail)
      refine wpQuiet_nil ?_
      rintro _ ⟨s, rfl⟩
      have r1 := Fut.cell (q1 s)
      have r2 := Fut.cell (q2 s)
      clear q1 q2
      by_cases hxy : x = y
      · subst hxy
        go_wp2_with fail
        go_roundg (gk - 1)
        case measure => omega
        case rel => exact ⟨j + 1, by omega, by omega, by go_num, by rw [HX.out.1]; simp, gro HI.out.2 s.below⟩
      · have hf : (x == y) = false := by simpa using hxy
        have hxi : ¬ n8 x = n8 y := fun e => hxy (n8_inj e)
        rw [show (n8 x != n8 y) = true from by simpa using hxi]
        go_upto_region 5 with fail
        refine wp_region_fut (by kernel_rfl) (by kernel_rfl) ?_
        repeat go_big_quiet_step (fail)
        refine wpQuiet_nil ?_
        rintro _ ⟨s2, rfl⟩
        have hb1 := n8_lt x; have hb2 := n8_nonneg x; have hb3 := n8_lt y; have hb4 := n8_nonneg y
        have hz : wrap64 (wrap64 (n8 x) - wrap64 (n8 y)) = n8 x - n8 y := wrap_diff x y
        have HZ := hid hz
        clear hb1 hb2 hb3 hb4 hz
        go_wp2_with fail
        go_ret
        exact ⟨by rw [HX.out.1, if_neg hxy]; show Ending.returned (.int .i64 (wrap64 (wrap64 (n8 x) - wrap64 (n8 y)))) = _; rw [HZ.out], gro (gro HI.out.2 s.below) s2.below⟩
    · have hend := Lx.less_end (a := l1) (b := l2) (j := j) (by rw [HA.out.1]; omega) (by rw [HA.out.2.1]; omega) (by rw [HA.out.1, HA.out.2.1]; omega)
      rw [← HI.out.1, HA.out.1, HA.out.2.1] at hend
      have HE := hid hend
      clear hend
      by_cases hlt1 : j < n1
      · have hlt2 : ¬ j < n2 := fun h => hlt ⟨hlt1, h⟩
        clear hlt
        go_wp2_with fail
        go_ret
        exact ⟨by rw [HE.out]; rfl, HI.out.2⟩
      · clear hlt
        go_wp2_with fail
        go_ret
        exact ⟨by rw [HE.out]; rfl, HI.out.2⟩
end Go.Proofs.YtpnakfeafekneaaGreatDoor
