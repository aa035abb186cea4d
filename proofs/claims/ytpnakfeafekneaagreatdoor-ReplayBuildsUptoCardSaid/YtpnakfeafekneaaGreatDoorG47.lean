/- Part 47 of this proof: YP, ZS. -/
import Derived.LaidMore
import Derived.OpenShut
import Derived.Stop.Joined
import Derived.Test.YtpnakfeafekneaaGreatDoorG45
import Derived.Test.YtpnakfeafekneaaGreatDoorG46
set_option linter.unusedSimpArgs false
set_option linter.unusedVariables false
/- The law ReplayRoots: the row. -/
namespace Go.Proofs.YtpnakfeafekneaaGreatDoor
open Go.ChangeShapes Go.WideShapes Go.ChangeAt Go.Deep Go.RowKit
theorem own : ownKnob Tryz.prog.godebug = none := by kernel_rfl
theorem laidOut : laidOutB Tryz.prog = true := by kernel_rfl
theorem gWords : Tryz.prog.globalNamed "notary/sha.words" = some 0 := by kernel_rfl
theorem tWords : (Tryz.prog.globals[(0 : Nat)]?).map (·.type) = some 245 := by kernel_rfl
def laidW : List (String × DataW Unit) := [("notary/sha.words", Rows.laid_notary_sha_words)]
theorem datum_eq {H : Type} : (Rows.laid_notary_sha_words : DataW H) = .agg (Sha.kList.map fun k => .lit (.int .u32 (n32 k))) := by kernel_rfl
set_option maxRecDepth 100000 in
theorem of_laid {W : World} (h : laidMetH Tryz.prog laidW W) : Words W := by
  rw [MakeChecks.laidMetH_plain _ _ _ (by kernel_rfl)] at h
  obtain ⟨ps, ⟨g0, t0, cs0, f0, p0, q0, hg0, ht0, hv0, hd0, _, _⟩, _, _⟩ := h
  obtain rfl := Option.some.inj (gWords.symm.trans hg0)
  obtain rfl := Option.some.inj (tWords.symm.trans ht0)
  obtain ⟨xs, m1, rfl, hx1, hlen, hn3, hel⟩ := DataW.trod_array Tryz.underlying245 hd0
  simp only [Prod.mk.injEq] at hx1
  obtain ⟨hx1, -⟩ := hx1
  rw [datum_eq] at hx1
  injection hx1 with hx1
  have c1 : Tryz.prog.cellsOf 198 = 1 := by kernel_rfl
  have c64 : Tryz.prog.cellsOf 245 = 64 := by kernel_rfl
  rw [c64] at hlen
  have key : ∀ i, i < 64 → W.cell? ⟨0, i, none⟩ = some (b32 (Sha.K i)) := by
    intro i hi
    have hE := hel i hi
    rw [c1, Nat.mul_one] at hE
    have hil : i < cs0.toList.length := by omega
    rw [List.drop_eq_getElem_cons hil, List.take_succ_cons, List.take_zero] at hE
    have hxi : xs[i]? = some (xs[i]'(by omega)) := by simp
    rw [hxi] at hE
    obtain ⟨z, hz, hy, -⟩ := DataW.trod_int Tryz.underlying198 hE
    have hd : (Sha.kList.map fun k => (DataW.lit (.int .u32 (n32 k)) : DataW Unit))[i]? = some (DataW.lit (.int .u32 (n32 (Sha.K i)))) := by
      have hl : i < Sha.kList.length := hi
      simp [Sha.K, hl]
    rw [hx1, List.getElem?_map, hxi, Option.map_some, hy] at hd
    simp only [Option.some.injEq, DataW.lit.injEq, Lit.int.injEq, true_and] at hd
    have hc := World.var?_cell hg0 hv0 i
    rw [hc]
    have hci : cs0[i]? = some (.int .u32 z) := by
      simp only [List.cons.injEq, and_true] at hz
      rw [← hz]
      simp
    rw [hci, hd]
  exact ⟨key, World.block_lt_of_cell? W _ (key 0 (by decide))⟩
end Go.Proofs.YtpnakfeafekneaaGreatDoor

/- The law ReplayBuilds: its arguments opened: a list of batches as it is read before the call, and what its bulk says of the lengths. -/
namespace Go.Proofs.YtpnakfeafekneaaGreatDoor
open Go.ChangeShapes Go.WideShapes Go.Deep Go.RowKit
section
variable {H : Type} {enc : TypeId × Value → H} {W : World}
theorem cells_flatK {a : Addr} (K : Nat) (f : Nat → List Value) (hf : ∀ i, (f i).length = K) : ∀ n, (∀ i, i < n → ∀ j v, (f i)[j]? = some v → W.cell? (a.add (i * K + j)) = some v) → ∀ k v, (((List.range n).map f).flatten)[k]? = some v → W.cell? (a.add k) = some v
  | 0, _, k, v, hk => by simp at hk
  | n + 1, h, k, v, hk => by
    have hl : ((List.range n).map f).flatten.length = n * K := by
      rw [flatten_len K _ (by intro x hx; obtain ⟨i, -, rfl⟩ := List.mem_map.1 hx; exact hf i)]; simp
    rw [List.range_succ, List.map_append, List.flatten_append] at hk
    by_cases hkn : k < n * K
    · rw [List.getElem?_append_left (by omega)] at hk
      exact cells_flatK K f hf n (fun i hi => h i (by omega)) k v hk
    · rw [List.getElem?_append_right (by omega), hl] at hk
      have := h n (by omega) (k - n * K) v (by simpa using hk)
      rw [show n * K + (k - n * K) = k from by omega] at this
      exact this
theorem bulk_pos (d : DataW H) : 1 ≤ Rows.uptoBulk d := by
  cases d with
  | lit l => cases l <;> simp [Rows.uptoBulk]
  | _ => simp [Rows.uptoBulk]
theorem bulk_app : ∀ (a b : List (DataW H)), Rows.uptoBulkAll (a ++ b) = Rows.uptoBulkAll a + Rows.uptoBulkAll b
  | [], b => by simp [Rows.uptoBulkAll]
  | d :: a, b => by simp only [List.cons_append, Rows.uptoBulkAll, bulk_app a b]; omega
theorem bulk_len : ∀ (ds : List (DataW H)), ds.length ≤ Rows.uptoBulkAll ds
  | [] => Nat.zero_le _
  | d :: ds => by
    have := bulk_pos d
    have := bulk_len ds
    simp only [Rows.uptoBulkAll, List.length_cons]; omega
/-- A slice is no longer than its bulk. -/
theorem bulk_slice {t e : TypeId} (ht : Tryz.prog.underlying t = some (.slice e)) {fuel : Nat} {A : Option Addr} {m c : Nat} {x : DataW H × List MemPlace} (h : DataW.trod enc Tryz.prog W 0 (fun _ => true) true fuel t [.slice A m c] = some x) : m + 1 ≤ Rows.uptoBulk x.1 := by
  rcases open_slice ht h with ⟨hcs, hx⟩ | ⟨a, len, cap, m', n, D, Pl, hcs, -, hl, -, hmm, hx, -⟩
  · simp only [List.cons.injEq, and_true, Value.slice.injEq] at hcs
    obtain ⟨-, rfl, -⟩ := hcs
    exact bulk_pos _
  · simp only [List.cons.injEq, and_true, Value.slice.injEq] at hcs
    obtain ⟨-, rfl, -⟩ := hcs
    rw [hx]
    simp only [Rows.uptoBulk]
    have := bulk_len ((List.range m).map D)
    simp only [List.length_map, List.length_range] at this
    omega
theorem bulk_sum (D : Nat → DataW H) (b : Nat → List Ent) : ∀ n, (∀ i, i < n → (b i).length + 1 ≤ Rows.uptoBulk (D i)) → n + (((List.range n).map b).flatten).length ≤ Rows.uptoBulkAll ((List.range n).map D)
  | 0, _ => by simp
  | n + 1, h => by
    have h1 := bulk_sum D b n fun i hi => h i (by omega)
    have h2 := h n (by omega)
    rw [List.range_succ, List.map_append, List.map_append, List.flatten_append, List.length_append, bulk_app]
    simp only [List.map_cons, List.map_nil, List.flatten_cons, List.flatten_nil, List.append_nil, Rows.uptoBulkAll, Nat.add_zero]
    omega
set_option maxRecDepth 100000 in
theorem open_bat {fuel : Nat} {cs : List Value} {x : DataW H × List MemPlace} (h : DataW.trod enc Tryz.prog W 0 (fun _ => true) true fuel 47 cs = some x) :
    ∃ (F : Nat) (b : List Ent), BatAt W cs F b ∧ F < 18446744073709551616 ∧ b.length + 1 ≤ Rows.uptoBulk x.1 ∧ ∀ B, (∀ k ∈ x.1.weights Tryz.prog 47, k ≤ B) → ∀ e ∈ b, e.key.length ≤ B ∧ e.val.length ≤ B := by
  obtain ⟨xs, n, -, hx, hl, hlen, hf⟩ := DataW.trod_struct Tryz.underlying47 h
  rw [show Tryz.prog.cellsOf 47 = 2 from by kernel_rfl] at hl
  match xs, hlen, cs, hl with
  | [y0, y1], _, [v0, v1], _ =>
    have g0 : DataW.trod enc Tryz.prog W 0 (fun _ => true) true n 38 (([v0, v1].drop 0).take (Tryz.prog.cellsOf 38)) = some y0 := hf 0 _ rfl
    have g1 : DataW.trod enc Tryz.prog W 0 (fun _ => true) true n 22 (([v0, v1].drop 1).take (Tryz.prog.cellsOf 22)) = some y1 := hf 1 _ rfl
    rw [show Tryz.prog.cellsOf 38 = 1 from by kernel_rfl] at g0
    rw [show Tryz.prog.cellsOf 22 = 1 from by kernel_rfl] at g1
    simp only [List.drop_zero, List.drop_succ_cons, List.take_succ_cons, List.take_zero] at g0 g1
    obtain ⟨z, hz, -, hwf⟩ := DataW.trod_int Tryz.underlying38 g0
    simp only [List.cons.injEq, and_true] at hz
    subst hz
    obtain ⟨A, m, c, L, es, rfl, rfl, hmc, hr, he, hb⟩ := open_ents g1
    have hbk := bulk_slice Tryz.underlying22 g1
    simp only [Lit.wf, Bool.and_eq_true, decide_eq_true_eq] at hwf
    rw [show IntKind.u64.min = 0 from rfl, show IntKind.u64.max = 18446744073709551615 from rfl] at hwf
    obtain ⟨F, rfl⟩ := Int.eq_ofNat_of_zero_le hwf.1
    refine ⟨F, es, ⟨A, c, L, rfl, hr, he⟩, by omega, ?_, fun B hB => hb B fun k hk => hB k ?_⟩
    · rw [hx]
      simp only [List.map_cons, List.map_nil, Rows.uptoBulk, Rows.uptoBulkAll]
      omega
    · rw [hx]
      simp only [DataW.weights, Tryz.underlying47, List.map_cons, List.map_nil, DataW.weightsEach, List.mem_append]
      exact .inr (.inl hk)
/-- A list of batches. -/
theorem open_bats {fuel : Nat} {v : Value} {x : DataW H × List MemPlace} (h : DataW.trod enc Tryz.prog W 0 (fun _ => true) true fuel 44 [v] = some x) :
    ∃ (A : Option Addr) (m c : Nat) (X : List (List Value)) (Fs : List Nat) (bs : List (List Ent)), v = .slice A m c ∧ bs.length = m ∧ Rd W A X.flatten ∧ BatsAt W X Fs bs ∧ (∀ F ∈ Fs, F < 18446744073709551616) ∧ m + bs.flatten.length ≤ Rows.uptoBulk x.1 ∧ ∀ B, (∀ k ∈ x.1.weights Tryz.prog 44, k ≤ B) → ∀ b ∈ bs, ∀ e ∈ b, e.key.length ≤ B ∧ e.val.length ≤ B := by
  rcases open_slice Tryz.underlying44 h with ⟨hcs, -⟩ | ⟨a, len, cap, m, n, D, Pl, hcs, -, hl, -, hmm, hx, hel⟩
  · exact ⟨none, 0, 0, [], [], [], by simpa using hcs, rfl, Rd.nil _ _, ⟨rfl, rfl, fun i x F b h => by simp at h⟩, fun F hF => (by cases hF), (by simp), fun B _ e he => by cases he⟩
  · simp only [if_true] at hmm
    subst hmm
    have hq : ∀ i, ∃ q : List Value × Nat × List Ent, q.1.length = 2 ∧ (i < m → (∀ j v, q.1[j]? = some v → W.cell? (a.add (i * 2 + j)) = some v) ∧ BatAt W q.1 q.2.1 q.2.2 ∧ q.2.1 < 18446744073709551616 ∧ q.2.2.length + 1 ≤ Rows.uptoBulk (D i) ∧ ∀ B, (∀ k ∈ (D i).weights Tryz.prog 47, k ≤ B) → ∀ e ∈ q.2.2, e.key.length ≤ B ∧ e.val.length ≤ B) := by
      intro i
      by_cases hi : i < m
      · obtain ⟨cs', h1, h2⟩ := hel i hi
        rw [show Tryz.prog.cellsOf 47 = 2 from by kernel_rfl] at h1
        obtain ⟨-, hlen, hcell⟩ := World.cells?_some h1
        obtain ⟨F, b, he, hF, hbk, hb⟩ := open_bat h2
        refine ⟨(cs', F, b), hlen, fun _ => ⟨fun j v hj => ?_, he, hF, hbk, hb⟩⟩
        have hj' : cs'[j]? = some v := hj
        have hj3 : j < 2 := by have := (List.getElem?_eq_some_iff.1 hj').1; omega
        have := hcell j hj3
        rw [hj', add_add] at this
        exact this
      · exact ⟨([.nilFunc, .nilFunc], 0, []), rfl, fun h => absurd h hi⟩
    obtain ⟨q, hq⟩ := Classical.axiomOfChoice hq
    refine ⟨some a, len, m, (List.range len).map fun i => (q i).1, (List.range len).map fun i => (q i).2.1, (List.range len).map fun i => (q i).2.2, by simpa using hcs, by simp, ?_, ⟨by simp, by simp, ?_⟩, fun F hF => ?_, ?_, fun B hB b hb => ?_⟩
    · exact rd_of_cells _ (cells_flatK 2 (fun i => (q i).1) (fun i => (hq i).1) len (fun i hi => ((hq i).2 (by omega)).1))
    · intro i y F b h1 h2 h3
      rw [List.getElem?_map, Option.map_eq_some_iff] at h1 h2 h3
      obtain ⟨i1, hi1, rfl⟩ := h1
      obtain ⟨i2, hi2, rfl⟩ := h2
      obtain ⟨i3, hi3, rfl⟩ := h3
      rw [hi1] at hi2 hi3
      cases hi2
      cases hi3
      have : i1 < len := List.mem_range.1 (List.mem_of_getElem? hi1)
      exact ((hq i1).2 (by omega)).2.1
    · obtain ⟨i, hi, rfl⟩ := List.mem_map.1 hF
      have hil := List.mem_range.1 hi
      exact ((hq i).2 (by omega)).2.2.1
    · rw [hx]
      have := bulk_sum D (fun i => (q i).2.2) len fun i hi => ((hq i).2 (by omega)).2.2.2.1
      simp only [Rows.uptoBulk]
      omega
    · obtain ⟨i, hi, rfl⟩ := List.mem_map.1 hb
      have hil := List.mem_range.1 hi
      refine ((hq i).2 (by omega)).2.2.2.2 B (fun k hk => hB k ?_)
      rw [hx]
      simp only [DataW.weights, Tryz.underlying44, List.mem_cons, List.mem_append]
      right; left
      exact weightsAll_mem (List.mem_map.2 ⟨i, hi, rfl⟩) hk
end
end Go.Proofs.YtpnakfeafekneaaGreatDoor
