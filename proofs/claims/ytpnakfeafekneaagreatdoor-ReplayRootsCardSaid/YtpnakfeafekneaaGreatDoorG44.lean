/- Part 44 of 46 of this proof: YP. -/
import Derived.LaidMore
import Derived.OpenShut
import Derived.Stop.Joined
import Derived.Test.YtpnakfeafekneaaGreatDoorG43
set_option linter.unusedSimpArgs false
set_option linter.unusedVariables false
/- The law ReplayRoots: the row. -/
namespace Go.Proofs.YtpnakfeafekneaaGreatDoor
open Go.ChangeShapes Go.WideShapes Go.ChangeAt Go.Deep Go.RowKit
theorem own : ownKnob Tryz.prog.godebug = none := by kernel_rfl
theorem laidOut : laidOutB Tryz.prog = true := by kernel_rfl
theorem gWords : Tryz.prog.globalNamed "notary/sha.words" = some 0 := by kernel_rfl
theorem tWords : (Tryz.prog.globals[(0 : Nat)]?).map (·.type) = some 245 := by kernel_rfl
def laidW : List (String × DataW Unit) := [("notary/sha.words", Rows.laid_notary_sha_words)]
theorem datum_eq {H : Type} : (Rows.laid_notary_sha_words : DataW H) = .agg (Sha.kList.map fun k => .lit (.int .u32 (n32 k))) := by kernel_rfl
set_option maxRecDepth 100000 in
theorem of_laid {W : World} (h : laidMetH Tryz.prog laidW W) : Words W := by
  rw [MakeChecks.laidMetH_plain _ _ _ (by kernel_rfl)] at h
  obtain ⟨ps, ⟨g0, t0, cs0, f0, p0, q0, hg0, ht0, hv0, hd0, _, _⟩, _, _⟩ := h
  obtain rfl := Option.some.inj (gWords.symm.trans hg0)
  obtain rfl := Option.some.inj (tWords.symm.trans ht0)
  obtain ⟨xs, m1, rfl, hx1, hlen, hn3, hel⟩ := DataW.trod_array Tryz.underlying245 hd0
  simp only [Prod.mk.injEq] at hx1
  obtain ⟨hx1, -⟩ := hx1
  rw [datum_eq] at hx1
  injection hx1 with hx1
  have c1 : Tryz.prog.cellsOf 198 = 1 := by kernel_rfl
  have c64 : Tryz.prog.cellsOf 245 = 64 := by kernel_rfl
  rw [c64] at hlen
  have key : ∀ i, i < 64 → W.cell? ⟨0, i, none⟩ = some (b32 (Sha.K i)) := by
    intro i hi
    have hE := hel i hi
    rw [c1, Nat.mul_one] at hE
    have hil : i < cs0.toList.length := by omega
    rw [List.drop_eq_getElem_cons hil, List.take_succ_cons, List.take_zero] at hE
    have hxi : xs[i]? = some (xs[i]'(by omega)) := by simp
    rw [hxi] at hE
    obtain ⟨z, hz, hy, -⟩ := DataW.trod_int Tryz.underlying198 hE
    have hd : (Sha.kList.map fun k => (DataW.lit (.int .u32 (n32 k)) : DataW Unit))[i]? = some (DataW.lit (.int .u32 (n32 (Sha.K i)))) := by
      have hl : i < Sha.kList.length := hi
      simp [Sha.K, hl]
    rw [hx1, List.getElem?_map, hxi, Option.map_some, hy] at hd
    simp only [Option.some.injEq, DataW.lit.injEq, Lit.int.injEq, true_and] at hd
    have hc := World.var?_cell hg0 hv0 i
    rw [hc]
    have hci : cs0[i]? = some (.int .u32 z) := by
      simp only [List.cons.injEq, and_true] at hz
      rw [← hz]
      simp
    rw [hci, hd]
  exact ⟨key, World.block_lt_of_cell? W _ (key 0 (by decide))⟩
end Go.Proofs.YtpnakfeafekneaaGreatDoor
