/- Part 15 of this proof: E3. -/
import Derived.Test.YtpnakfeafekneaaGreatDoorG14
set_option linter.unusedSimpArgs false
set_option linter.unusedVariables false
namespace Go.Proofs.YtpnakfeafekneaaGreatDoor
open Go.RowKit
theorem En.bytes_len (e : Ent) (h : En.check e = 0) : (En.bytes e).length < 400 := by
  unfold En.check En.chk at h
  have h1 : ¬ (64 < e.key.length ∨ 256 < e.val.length) := by
    intro h'
    rw [if_pos h'] at h; cases h
  have hu1 := Wi.uvar_length 9 e.key.length (by omega)
  have hu2 := Wi.uvar_length 9 e.val.length (by omega)
  unfold En.bytes Wi.blob
  simp only [List.length_cons, List.length_append]
  split <;> simp <;> omega
theorem En.lens (e : Ent) (h : En.check e = 0) : e.key.length ≤ 64 ∧ e.val.length ≤ 256 := by
  unfold En.check En.chk at h
  have h1 : ¬ (64 < e.key.length ∨ 256 < e.val.length) := by
    intro h'
    rw [if_pos h'] at h; cases h
  omega
theorem encode_ok (e : Ent) (A1 A2 : Option Addr) (c1 c2 : Nat) (w : World) (hr1 : Rd w A1 (e.key.map b8)) (hr2 : Rd w A2 (e.val.map b8)) (hok : En.check e = 0) :
    Calls Tryz.prog 114 #[.agg #[b8 e.kind, .slice A1 e.key.length c1, .slice A2 e.val.length c2]] w fun ee w' => ∃ A c, ee = .returned (.tuple #[.slice A (En.bytes e).length c, .int .i64 0]) ∧ Below w.heap.size w w' ∧ Rd w' A ((En.bytes e).map b8) ∧ (En.bytes e).length ≤ c := by
  have hlen := En.lens e hok
  have hbl := En.bytes_len e hok
  have hbk : Blk (w.alloc (.cells #[b8 e.kind, .slice A1 e.key.length c1, .slice A2 e.val.length c2] 36)) w.heap.size 36 [b8 e.kind, .slice A1 e.key.length c1, .slice A2 e.val.length c2] := Blk.new w _ _
  have HE := hid (And.intro hr1 (And.intro hr2 (And.intro hok (And.intro hlen hbl))))
  clear hr1 hr2 hok hlen hbl
  go_enter Tryz.func114, Tryz.ntmps114
  go_upto_region 1 with fail
  refine wp_world (fun w' => Blk w' w.heap.size 36 [b8 e.kind, .slice A1 e.key.length c1, .slice A2 e.val.length c2] ∧ Below w.heap.size w w') ⟨hbk, below_box _ _⟩ ?_
  clear hbk
  rintro w1 ⟨hb, hbl⟩
  have hr := hb.whole
  have HB := hid (And.intro hb hbl)
  clear hb hbl
  go_wp2_with (first
    | (go_at_call 112
       refine (bytes_w HW.out (by have := HE.out.2.2.2.2; simp only [List.nil_append]; omega)).mono ?_
       rintro e7 w7 ⟨A', c', rfl, h1, h2, h3, h4⟩
       rw [List.nil_append] at h3 h4
       have HZ := hid (And.intro h1 (And.intro h3 h4))
       clear h1 h2 h3 h4)
    | (go_at_call 111
       have hn := (Wr.new w2).weaken (gro HB.out.2 HC.out)
       refine (lay_any w2.heap.size w e A1 A2 c1 c2 [] _ hn HE.out.1 HE.out.2.1 (by simp) (by have := HE.out.2.2.2.1; omega) (by have := HE.out.2.2.2.1; omega)).mono ?_
       rintro ee w3 ⟨rfl, h, -⟩
       have HW := hid h; clear h)
    | ((with_reducible refine ld_mid 36 (.tmp 1) w.heap.size 0 _ 3 _ rfl hr3 Tryz.underlying36 rfl (by kernel_rfl) ?_ ?_ ?_ ?_); rfl; rfl; rfl)
    | ((with_reducible refine ld_mid 36 (.tmp 1) w.heap.size 0 _ 3 _ rfl hr Tryz.underlying36 rfl (by kernel_rfl) ?_ ?_ ?_ ?_); rfl; rfl; rfl)
    | (go_at_call 39
       refine (check_e e.kind A1 A2 e.key.length c1 e.val.length c2 _).mono ?_
       rw [show En.chk e.kind e.key.length e.val.length = 0 from HE.out.2.2.1]
       rintro ee w2 ⟨rfl, hk⟩
       have hr3 : (w2.alloc (.cells #[.slice none 0 0] 184)).rangeAt w.heap.size 0 [b8 e.kind, .slice A1 e.key.length c1, .slice A2 e.val.length c2] := ((HB.out.1.grown hk).grown (below_box _ _)).whole
       have HC := hid hk; clear hk))
  go_ret2
  exact ⟨A', c', rfl, HZ.out.1, HZ.out.2⟩
end Go.Proofs.YtpnakfeafekneaaGreatDoor
