/- Part 48 of this proof: ZT. -/
import Derived.Lay
import Derived.Deep.DeepHandedRow
import Derived.Test.YtpnakfeafekneaaGreatDoorG47
set_option linter.unusedSimpArgs false
set_option linter.unusedVariables false
/- ReplayBuilds, where what it reads is of bulk at most 1048576: for every width and every list of batches the law answers true and its arguments read behind the call as before. Proved of the translation as the row ReplayBuildsUptoSaid has it (the table notary/sha.words laid as the card ties it). -/
namespace Go.Proofs.YtpnakfeafekneaaGreatDoor
open Go.ChangeShapes Go.WideShapes Go.ChangeAt Go.Deep Go.RowKit
set_option maxRecDepth 100000 in
theorem builds_fits (os : Os) {H : Type} (enc : TypeId × Value → H) :
    (Rows.OpenSpec.upto Rows.replayBuildsSpec).preRow enc Tryz.prog Tryz.f5 [] false laidW ((World.laidAll Tryz.prog os laidW).forCall (fun _ _ => 0) ⟨#[], #[.int .i64 0, .slice none 0 0], []⟩).memory #[.int .i64 0, .slice none 0 0] := by
  have hw : (DataW.whole enc Tryz.prog ((World.laidAll Tryz.prog os laidW).forCall (fun _ _ => 0) ⟨#[], #[.int .i64 0, .slice none 0 0], []⟩).memory Tryz.f5.params.toList (Rows.OpenSpec.upto Rows.replayBuildsSpec).vars false #[Value.int .i64 0, Value.slice none 0 0].toList 8).map (fun x => (x.1, x.2.1)) =
      some ([.lit (.int .i64 0), .nil], []) := by kernel_rfl
  obtain ⟨⟨x1, x2, x3⟩, hx, hx1⟩ := Option.map_eq_some_iff.1 hw
  simp only [Prod.mk.injEq] at hx1
  obtain ⟨rfl, rfl⟩ := hx1
  exact OpenSpec.preRow_of_cond 8 hx (by kernel_rfl) (fun k hk => by cases hk; kernel_rfl) (by kernel_rfl)
    (by rw [MakeChecks.laidMetH_plain _ _ _ (by kernel_rfl)]; exact laidMet_laidAll _ (by kernel_rfl) (by kernel_rfl))
set_option maxHeartbeats 4000000 in
set_option maxRecDepth 100000 in
theorem replayBuilds_lifted (os : Os) (started : os.Started) (H : Type) (enc : TypeId × Value → H) (F0 : Stop.Interp) :
    ReturnsInHanded {} Tryz.checked os 5 .any ((Rows.OpenSpec.upto Rows.replayBuildsSpec).preRow enc Tryz.prog Tryz.f5 [] false laidW)
      (((Rows.OpenSpec.upto Rows.replayBuildsSpec).at F0).post enc Tryz.prog Tryz.f5 false true false false) := by
  refine returnsInHanded_of_row (C := Tryz.checked) (s := Rows.OpenSpec.upto Rows.replayBuildsSpec) own started (by kernel_rfl) Tryz.func5
    ⟨World.laidAll Tryz.prog os laidW, fun _ _ => 0, ⟨#[], #[.int .i64 0, .slice none 0 0], []⟩, World.laidAll_os _ _ _, World.shaped_of_ZipB (by kernel_rfl) (by kernel_rfl), rfl,
      (Input.okWide_of_okWideB (by kernel_rfl)).2, builds_fits os enc, by simp only [Assume.holds]; exact ⟨by simp, by simp, fun _ => Modest.zero, by simp, by simp⟩⟩ ?_
  intro W base args ds gs before hval0 hW _ hcond0 hsz0 hL _ _
  have hcond : decide (Rows.uptoBulkAll (ds ++ gs) ≤ 1048576) = true := hcond0 _ rfl
  have hval : ∀ (j : Nat) t v, Tryz.f5.params[j]? = some t → args[j]? = some v → Value.okWide Tryz.prog W .any base t v := hval0
  have hW' := hW
  obtain ⟨p, q, hA0, hV, rfl, _, _⟩ := hW
  have hA : DataW.TrodAll enc Tryz.prog W 0 (fun _ => true) true Tryz.f5.params.toList args.toList ds p := hA0
  have hsz : (DataW.weightsEach Tryz.prog (Tryz.f5.params.toList ++ (Rows.OpenSpec.upto Rows.replayBuildsSpec).bare.plain.varTypes Tryz.prog) (ds ++ gs)).all (· ≤ reachBytes) = true := hsz0
  rw [Tryz.params5] at hA hval hsz
  obtain ⟨v0, v1, d0, d1, p0, p1, rfl, rfl, rfl, h0, h1⟩ := trodAll_two hA
  obtain ⟨rfl, rfl⟩ := trodVars_none hV
  obtain ⟨x, rfl, rfl, rfl, wx⟩ := open_int Tryz.underlying3 (hval 0 3 v0 rfl rfl) h0
  obtain ⟨a0, len, cap, rfl⟩ := okWide_slice Tryz.underlying44 (hval 1 44 v1 rfl rfl)
  have h1k := h1
  obtain ⟨fuel, hf⟩ := h1
  obtain ⟨A, m, c, X, Fs, bs, hv, hm, hr, hX, hFs, hbk, hb⟩ := open_bats (v := .slice a0 len cap) hf
  cases hv
  clear hA0 hval0 hA hcond0
  simp only [List.append_nil, List.nil_append] at hW' hcond
  have hlt : ∀ x ∈ p1, x.block < W.heap.size := fun x hx => by simpa using hW'.lt x hx
  have hn : len + bs.flatten.length < 4611686018427387904 := by
    have h := of_decide_eq_true hcond
    simp only [Rows.uptoBulkAll] at h
    simp only at hbk
    omega
  have hbound : ∀ b ∈ bs, ∀ e ∈ b, e.key.length ≤ 140737488355328 ∧ e.val.length ≤ 140737488355328 := fun b hbb e hee => by
    have h := hb reachBytes (fun k hk => by
      have := List.all_eq_true.1 hsz _ (DataW.weights_mem_each (j := 1) (t := 44) rfl rfl k hk)
      simpa using this) b hbb e hee
    have := reachBytes_lt
    omega
  refine (replaybuilds_any x bs Fs a0 len cap X W (of_laid hL) hm hr hX hFs hbound hn).mono fun e W' ⟨hee, hbW⟩ => ?_
  subst hee
  exact ⟨_, rfl, _, _, _, [], _, [], hW', trodAll_mk1 (shut_bool Tryz.underlying4 _), trodAll_mk2 (shut_int Tryz.underlying3 wx) (Below.trod laidOut (by kernel_rfl) (of_decide_eq_true (by kernel_rfl)) h1k hbW hlt), rfl, hbW.frame _, fun h => by cases h⟩
theorem replayBuildsUpto_row : Rows.ReplayBuildsUptoSaid :=
  OpenClaim.holds_of_cond 5 Tryz.f5 rfl rfl rfl rfl rfl rfl rfl ⟨rfl, rfl, rfl, rfl, rfl⟩ rfl rfl rfl rfl rfl (by kernel_rfl) Tryz.func5 (by kernel_rfl)
    (of_decide_eq_true (by kernel_rfl)) (by unfold Func.isWrapper; first | (rw [if_pos (by decide +kernel)]; kernel_rfl) | (rw [if_neg (by decide +kernel)]; exact ⟨rfl, rfl⟩))
    (fun os started H enc _ F0 => by rw [OpenClaim.pre_eq_preRow]; exact replayBuilds_lifted os started H enc F0)
end Go.Proofs.YtpnakfeafekneaaGreatDoor
