/- Part 41 of this proof: YL. -/
import Derived.Test.YtpnakfeafekneaaGreatDoorG40
set_option linter.unusedSimpArgs false
set_option linter.unusedVariables false
/- The program's replay.Build of good batches. -/
namespace Go.Proofs.YtpnakfeafekneaaGreatDoor
open Go.RowKit
def BatAt (w : World) (x : List Value) (F : Nat) (b : List Ent) : Prop := ∃ A c L, x = [.int .u64 F, .slice A b.length c] ∧ Rd w A L.flatten ∧ EntsAt w L b
theorem BatAt.grown {w w' : World} {x : List Value} {F : Nat} {b : List Ent} (h : BatAt w x F b) (hb : Below w.heap.size w w') : BatAt w' x F b := by
  obtain ⟨A, c, L, e, h1, h2⟩ := h
  exact ⟨A, c, L, e, h1.grown hb, h2.grown hb⟩
structure BatsAt (w : World) (X : List (List Value)) (Fs : List Nat) (bs : List (List Ent)) : Prop where
  len : X.length = bs.length
  lenF : Fs.length = bs.length
  at_ : ∀ (i : Nat) (x : List Value) (F : Nat) (b : List Ent), X[i]? = some x → Fs[i]? = some F → bs[i]? = some b → BatAt w x F b
theorem BatAt.two {w : World} {x : List Value} {F : Nat} {b : List Ent} (h : BatAt w x F b) : x.length = 2 := by
  obtain ⟨A, c, L, rfl, _⟩ := h; rfl
theorem BatsAt.all2 [Inhabited LoT] {w : World} {X : List (List Value)} {Fs : List Nat} {bs : List (List Ent)} (h : BatsAt w X Fs bs) : ∀ x ∈ X, x.length = 2 := by
  intro x hx
  obtain ⟨i, hi, rfl⟩ := List.getElem_of_mem hx
  have h1 := h.len; have h2 := h.lenF
  exact (h.at_ i X[i] (Fs[i]'(by omega)) (bs[i]'(by omega)) (by simp [hi]) (by simp) (by simp)).two
/-- The roots at the boundaries. -/
def Rbs (n : Nat) (bs : List (List Ent)) (k : Nat) : List Rt := (List.range (k + 1)).map fun i => Sn.root n (bs.take i).flatten
theorem Rbs_len (n : Nat) (bs : List (List Ent)) (k : Nat) : (Rbs n bs k).length = k + 1 := by simp [Rbs]
theorem Rbs_succ (n : Nat) (bs : List (List Ent)) (k : Nat) : Rbs n bs (k + 1) = Rbs n bs k ++ [Sn.root n (bs.take (k + 1)).flatten] := by
  unfold Rbs; rw [List.range_succ, List.map_append]; rfl
theorem Rbs_zero (n : Nat) (bs : List (List Ent)) : Rbs n bs 0 = [Sn.root n []] := by simp [Rbs]
theorem flatten_take_le {α : Type} (bs : List (List α)) (j : Nat) : (bs.take j).flatten.length ≤ bs.flatten.length := by
  conv => rhs; rw [← List.take_append_drop j bs, List.flatten_append, List.length_append]
  omega
set_option maxHeartbeats 2000000 in
set_option maxRecDepth 100000 in
theorem build_ok [Inhabited LoT] (n : Nat) (h1 : 1 ≤ n) (h2 : n ≤ 32) (bs : List (List Ent)) (Fs : List Nat) (A : Option Addr) (m c : Nat) (X : List (List Value)) (w : World) (hw : Words w) (hm : bs.length = m) (hA : Rd w A X.flatten) (hX : BatsAt w X Fs bs) (hF : ∀ i, i < bs.length → Fs[i]? = some (bs.take i).flatten.length) (hck : ∀ i (hi : i < bs.length), En.bchk (bs.take i).flatten.length bs[i] = 0) (hn : m + 2 < 1048576) (htot : bs.flatten.length < 1048576) (hlo : Lo ≤ w.heap.size) :
    Calls Tryz.prog 19 #[.int .i64 n, .slice A m c] w fun e w' => ∃ b S, e = .returned (.tuple #[ptr b, .int .i64 0]) ∧ Below w.heap.size w w' ∧ SnapAt S w' n b bs.flatten (Rbs n bs m) := by
  have HA := hid (And.intro hA (And.intro hX (And.intro hF (And.intro hck (And.intro hw (And.intro hm htot))))))
  have HLO := hid hlo
  clear hA hX hF hck hw hm htot hlo
  go_enter Tryz.func19, Tryz.ntmps19
  go_wp2_with (go_at_call 38
               refine (snew_ok n h1 h2 w HA.out.2.2.2.2.1 HLO.out).mono ?_
               rintro e w1 ⟨b1, rfl, hb1, hs1⟩
               have H1 := hid (And.intro hb1 hs1)
               clear hb1 hs1)
  go_loopg [6, 7, 17] m (fun g s6 s7 i wr => ∃ j b S : Nat, j + g = m ∧ s6 = ptr b ∧ s7 = .int .i64 0 ∧ i = .int .i64 j ∧ SnapAt S wr n b (bs.take j).flatten (Rbs n bs j) ∧ Below w.heap.size w wr)
  case atStart => exact ⟨0, b1, _, by omega, rfl, rfl, rfl, by rw [Rbs_zero]; exact H1.out.2, H1.out.1⟩
  case round =>
    clear H1
    obtain ⟨j, b, S, hj, rfl, rfl, rfl, hs, hbl⟩ := hrel
    have HR := hid (And.intro hs hbl)
    clear hs hbl
    by_cases hlt : j < m
    · have hjb : j < bs.length := by rw [HA.out.2.2.2.2.2.1]; exact hlt
      have hl1 := HA.out.2.1.len
      have hl2 := HA.out.2.1.lenF
      have hjX : j < X.length := by omega
      obtain ⟨g, o, rfl, hr⟩ := HA.out.1 (by
        intro e
        have := flatten_len 2 _ HA.out.2.1.all2
        rw [e] at this
        simp at this; omega)
      have hp := range_part hr HA.out.2.1.all2 j hjX
      obtain ⟨A1, c1, L1, hx, hr1, he1⟩ := HA.out.2.1.at_ j X[j] (bs.take j).flatten.length bs[j] (by simp [hjX]) (HA.out.2.2.1 j hjb) (by simp [hjb])
      rw [hx] at hp
      have hlb := range_lt hp (by simp)
      have hp2 := range_below hp HR.out.2 hlb
      have hnx : (bs.take (j + 1)).flatten = (bs.take j).flatten ++ bs[j] := by rw [List.take_succ_eq_append_getElem hjb, List.flatten_append]; simp
      have hrs := Rbs_succ n bs j
      have htl := flatten_take_le bs (j + 1)
      rw [hnx, List.length_append] at htl
      have happ := sapply_ok S b n h1 h2 (bs.take j).flatten bs[j] (Rbs n bs j) A1 c1 L1
      have hck := HA.out.2.2.2.1 j hjb
      obtain ⟨F, hFe⟩ : ∃ F, F = (bs.take j).flatten.length := ⟨_, rfl⟩
      obtain ⟨M, hM⟩ : ∃ M, M = bs[j].length := ⟨_, rfl⟩
      rw [← hFe, ← hM] at hp2
      have hcall : ∀ w', Below w.heap.size w w' → SnapAt S w' n b (bs.take j).flatten (Rbs n bs j) → Calls Tryz.prog 40 #[ptr b, .agg #[.int .u64 F, .slice A1 M c1]] w' fun e w'' => ∃ b', e = .returned (.tuple #[ptr b', .int .i64 0]) ∧ Below w'.heap.size w' w'' ∧ SnapAt w'.heap.size w'' n b' ((bs.take j).flatten ++ bs[j]) (Rbs n bs j ++ [Sn.root n ((bs.take j).flatten ++ bs[j])]) := fun w' hb hs => by
        rw [hFe, hM]
        exact happ w' (HA.out.2.2.2.2.1.below hb) hs (hr1.grown hb) (he1.grown hb) (by have := HA.out.2.2.2.2.2.2; omega) (by rw [Rbs_len]; omega) hck
      rw [← hnx] at hcall
      have hoc : ∀ v ∈ [Value.int .u64 F, .slice A1 M c1], v.oneCell' = true := fun v hv => by
        simp only [List.mem_cons, List.not_mem_nil, or_false] at hv
        rcases hv with rfl | rfl <;> rfl
      have hp9 := (Blk.new wr 47 [.int .u64 F, .slice A1 M c1]).whole
      have HC := hid (And.intro hcall (And.intro hrs (below_box wr (.cells [Value.int .u64 F, .slice A1 M c1].toArray 47))))
      clear hcall hrs hnx htl happ hck hr hr1 he1 hx hp hlb hFe hM hl1 hl2
      go_wp2_with (first
        | ((with_reducible refine ld_mid 47 (.tmp 19) g (o + j * 2) _ 2 _ rfl hp2 Tryz.underlying47 rfl (by kernel_rfl) ?_ ?_ ?_ ?_); rfl; rfl; rfl)
        | ((with_reducible refine st_new 47 (.tmp 9) (.tmp 20) _ _ [.int .u64 F, .slice A1 M c1] 2 rfl ?_ (by kernel_rfl) hoc ?_ ?_ ?_ ?_ ?_); rfl; rfl; rfl; rfl; rfl)
        | ((with_reducible refine ld_mid 47 (.tmp 9) wr.heap.size 0 _ 2 _ rfl hp9 Tryz.underlying47 rfl (by kernel_rfl) ?_ ?_ ?_ ?_); rfl; rfl; rfl)
        | (go_at_call 40
           refine (HC.out.1 _ (gro HR.out.2 HC.out.2.2) (HR.out.1.grown HC.out.2.2)).mono ?_
           rintro e w5 ⟨b5, rfl, hb5, hs5⟩
           have H5 := hid (And.intro (gro HC.out.2.2 hb5) hs5)
           clear hb5 hs5))
      go_roundg (gk - 1)
      case measure => omega
      case rel => exact ⟨j + 1, b5, _, by omega, rfl, rfl, by go_num, by rw [HC.out.2.1]; exact H5.out.2, gro HR.out.2 H5.out.1⟩
    · obtain rfl : j = m := by omega
      have hfin := HR.out.1
      rw [List.take_of_length_le (by rw [HA.out.2.2.2.2.2.1]; exact Nat.le_refl _)] at hfin
      have HF := hid hfin
      clear hfin
      go_wp2_with fail
      go_ret2
      exact ⟨b, S, rfl, HR.out.2, HF.out⟩
end Go.Proofs.YtpnakfeafekneaaGreatDoor
