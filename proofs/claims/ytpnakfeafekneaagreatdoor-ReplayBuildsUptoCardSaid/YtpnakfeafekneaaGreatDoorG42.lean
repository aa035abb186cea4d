/- Part 42 of this proof: YM, YN, ZA, ZF. -/
import Derived.Lib.SlBytesConst
import Derived.Test.YtpnakfeafekneaaGreatDoorG41
set_option linter.unusedSimpArgs false
set_option linter.unusedVariables false
/- The law's awake. -/
namespace Go.Proofs.YtpnakfeafekneaaGreatDoor
open Go.RowKit
def aw1 : Ent := ⟨1, [107], [118]⟩
def aw2 : Ent := ⟨2, [], []⟩
def AwW (w w' : World) : Prop := Blk w' (w.heap.size + 1 + 1) 36 [b8 1, .slice (some ⟨w.heap.size, 0, none⟩) 1 1, .slice (some ⟨w.heap.size + 1, 0, none⟩) 1 1, b8 2, .slice none 0 0, .slice none 0 0] ∧ Rd w' (some ⟨w.heap.size, 0, none⟩) ([107].map b8) ∧ Rd w' (some ⟨w.heap.size + 1, 0, none⟩) ([118].map b8) ∧ Below w.heap.size w w'
theorem rd_marked (w : World) (x : UInt8) : Rd (w.alloc (.cells #[b8 x] 5 (1, 2))) (some ⟨w.heap.size, 0, none⟩) ([x].map b8) := Rd.of _ (fun j v hj => by
  have h0 : j = 0 := by have := (List.getElem?_eq_some_iff.1 hj).1; simp at this; omega
  subst h0
  simp at hj; subst hj
  have := heap_alloc_new w (.cells #[b8 x] 5 (1, 2))
  unfold World.cell?
  rw [this]; rfl)
theorem aw_world (w : World) : AwW w (((w.alloc (.cells #[.int .u8 107] 5 (1, 2))).alloc (.cells #[.int .u8 118] 5 (1, 2))).alloc (.cells #[.int .u8 1, .slice (some ⟨w.heap.size, 0, none⟩) 1 1, .slice (some ⟨w.heap.size + 1, 0, none⟩) 1 1, .int .u8 2, .slice none 0 0, .slice none 0 0] 36)) := by
  have z1 : (w.alloc (.cells #[.int .u8 107] 5 (1, 2))).heap.size = w.heap.size + 1 := by simp
  have z2 : ((w.alloc (.cells #[.int .u8 107] 5 (1, 2))).alloc (.cells #[.int .u8 118] 5 (1, 2))).heap.size = w.heap.size + 1 + 1 := by simp
  have b1 := below_box w (.cells #[.int .u8 107] 5 (1, 2))
  have b2 := below_box (w.alloc (.cells #[.int .u8 107] 5 (1, 2))) (.cells #[.int .u8 118] 5 (1, 2))
  have b3 := below_box ((w.alloc (.cells #[.int .u8 107] 5 (1, 2))).alloc (.cells #[.int .u8 118] 5 (1, 2))) (.cells #[.int .u8 1, .slice (some ⟨w.heap.size, 0, none⟩) 1 1, .slice (some ⟨w.heap.size + 1, 0, none⟩) 1 1, .int .u8 2, .slice none 0 0, .slice none 0 0] 36)
  have r1 : Rd (w.alloc (.cells #[.int .u8 107] 5 (1, 2))) (some ⟨w.heap.size, 0, none⟩) ([107].map b8) := rd_marked w 107
  have r2 : Rd ((w.alloc (.cells #[.int .u8 107] 5 (1, 2))).alloc (.cells #[.int .u8 118] 5 (1, 2))) (some ⟨w.heap.size + 1, 0, none⟩) ([118].map b8) := by rw [← z1]; exact rd_marked _ 118
  refine ⟨?_, (r1.grown b2).grown b3, r2.grown b3, gro (gro b1 b2) b3⟩
  rw [← z2]
  exact Blk.new _ _ [b8 1, .slice (some ⟨w.heap.size, 0, none⟩) 1 1, .slice (some ⟨w.heap.size + 1, 0, none⟩) 1 1, b8 2, .slice none 0 0, .slice none 0 0]
theorem aw_ents {w1 : World} {B K V : Nat} (hk : Rd w1 (some ⟨K, 0, none⟩) ([107].map b8)) (hv : Rd w1 (some ⟨V, 0, none⟩) ([118].map b8)) : EntAt w1 [b8 1, .slice (some ⟨K, 0, none⟩) 1 1, .slice (some ⟨V, 0, none⟩) 1 1] aw1 ∧ EntAt w1 [b8 2, .slice none 0 0, .slice none 0 0] aw2 :=
  ⟨⟨_, _, _, _, rfl, hk, hv, Nat.le_refl _, Nat.le_refl _⟩, ⟨_, _, _, _, rfl, Rd.nil _ _, Rd.nil _ _, Nat.le_refl _, Nat.le_refl _⟩⟩
theorem ents_one {w : World} {x : List Value} {e : Ent} (h : EntAt w x e) : EntsAt w [x] [e] := by
  refine ⟨rfl, fun i y q h1 h3 => ?_⟩
  have hi : i = 0 := by have := (List.getElem?_eq_some_iff.1 h1).1; simp at this; omega
  subst hi
  simp at h1 h3; subst h1; subst h3; exact h
theorem ents_two {w : World} {x y : List Value} {e f : Ent} (h : EntAt w x e) (h' : EntAt w y f) : EntsAt w [x, y] [e, f] := by
  refine ⟨rfl, fun i z q h1 h3 => ?_⟩
  have hi : i = 0 ∨ i = 1 := by have := (List.getElem?_eq_some_iff.1 h1).1; simp at this; omega
  rcases hi with rfl | rfl
  · simp at h1 h3; subst h1; subst h3; exact h
  · simp at h1 h3; subst h1; subst h3; exact h'
theorem aw_build (w1 : World) (B K V : Nat) (hl : Blk w1 B 36 [b8 1, .slice (some ⟨K, 0, none⟩) 1 1, .slice (some ⟨V, 0, none⟩) 1 1, b8 2, .slice none 0 0, .slice none 0 0]) (hk : Rd w1 (some ⟨K, 0, none⟩) ([107].map b8)) (hv : Rd w1 (some ⟨V, 0, none⟩) ([118].map b8)) (hw : Words w1) :
    ∀ w', Below (w1.alloc (.cells #[.int .u64 0, .slice (some ⟨B, 0, none⟩) 1 2, .int .u64 1, .slice (some ⟨B, 3, none⟩) 1 1] 47)).heap.size (w1.alloc (.cells #[.int .u64 0, .slice (some ⟨B, 0, none⟩) 1 2, .int .u64 1, .slice (some ⟨B, 3, none⟩) 1 1] 47)) w' →
      Calls Tryz.prog 19 #[.int .i64 4, .slice (some ⟨w1.heap.size, 0, none⟩) 2 2] w' fun e w'' => ∃ b S, e = .returned (.tuple #[ptr b, .int .i64 0]) ∧ Below w'.heap.size w' w'' ∧ SnapAt S w'' 4 b [aw1, aw2] (Rbs 4 [[aw1], [aw2]] 2) := fun w' hb => by
  have hb0 := below_box w1 (.cells #[.int .u64 0, .slice (some ⟨B, 0, none⟩) 1 2, .int .u64 1, .slice (some ⟨B, 3, none⟩) 1 1] 47)
  have hbw := gro hb0 hb
  have hr := ((Blk.new w1 47 [.int .u64 0, .slice (some ⟨B, 0, none⟩) 1 2, .int .u64 1, .slice (some ⟨B, 3, none⟩) 1 1]).grown hb).whole
  obtain ⟨e1, e2⟩ := aw_ents (B := B) (hk.grown hbw) (hv.grown hbw)
  have hw2 := (hl.grown hbw).whole
  have hX : BatsAt w' [[.int .u64 0, .slice (some ⟨B, 0, none⟩) 1 2], [.int .u64 1, .slice (some ⟨B, 3, none⟩) 1 1]] [0, 1] [[aw1], [aw2]] := by
    refine ⟨rfl, rfl, fun i x F b h1 h2 h3 => ?_⟩
    have hi : i = 0 ∨ i = 1 := by have := (List.getElem?_eq_some_iff.1 h1).1; simp at this; omega
    rcases hi with rfl | rfl
    · simp at h1 h2 h3; subst h1; subst h2; subst h3
      exact ⟨_, _, [[b8 1, .slice (some ⟨K, 0, none⟩) 1 1, .slice (some ⟨V, 0, none⟩) 1 1]], rfl, Rd.of _ (range_halves (X := [b8 1, .slice (some ⟨K, 0, none⟩) 1 1, .slice (some ⟨V, 0, none⟩) 1 1]) hw2).1, ents_one e1⟩
    · simp at h1 h2 h3; subst h1; subst h2; subst h3
      exact ⟨_, _, [[b8 2, .slice none 0 0, .slice none 0 0]], rfl, Rd.of _ (range_halves (X := [b8 1, .slice (some ⟨K, 0, none⟩) 1 1, .slice (some ⟨V, 0, none⟩) 1 1]) hw2).2, ents_one e2⟩
  have := build_ok 4 (by decide) (by decide) [[aw1], [aw2]] [0, 1] (some ⟨w1.heap.size, 0, none⟩) 2 2 [[.int .u64 0, .slice (some ⟨B, 0, none⟩) 1 2], [.int .u64 1, .slice (some ⟨B, 3, none⟩) 1 1]] w' (hw.below hbw) rfl (Rd.of _ hr) hX
    (fun i hi => by
      have : i = 0 ∨ i = 1 := by simp at hi; omega
      rcases this with rfl | rfl <;> rfl)
    (fun i hi => by
      have : i = 0 ∨ i = 1 := by simp at hi; omega
      rcases this with rfl | rfl
      · exact En.one_ok 0 (by decide) aw1 (by decide)
      · exact En.one_ok 1 (by decide) aw2 (by decide)) (by decide) (by decide) (Lo.zero _)
  exact this
theorem aw_roots (w1 : World) (B K V : Nat) (hl : Blk w1 B 36 [b8 1, .slice (some ⟨K, 0, none⟩) 1 1, .slice (some ⟨V, 0, none⟩) 1 1, b8 2, .slice none 0 0, .slice none 0 0]) (hk : Rd w1 (some ⟨K, 0, none⟩) ([107].map b8)) (hv : Rd w1 (some ⟨V, 0, none⟩) ([118].map b8)) (hw : Words w1) :
    ∀ w', Below w1.heap.size w1 w' → Rd w' (some ⟨B, 0, none⟩) ([[b8 1, .slice (some ⟨K, 0, none⟩) 1 1, .slice (some ⟨V, 0, none⟩) 1 1], [b8 2, .slice none 0 0, .slice none 0 0]] : List (List Value)).flatten ∧ EntsAt w' [[b8 1, .slice (some ⟨K, 0, none⟩) 1 1, .slice (some ⟨V, 0, none⟩) 1 1], [b8 2, .slice none 0 0, .slice none 0 0]] [aw1, aw2] ∧
      Calls Tryz.prog 9 #[.int .i64 4, .slice (some ⟨B, 0, none⟩) 2 2] w' fun e w'' => Below w'.heap.size w' w'' ∧ ∃ Ar cr, e = .returned (.tuple #[.slice Ar 3 cr, .int .i64 0]) ∧ Rd w'' Ar (rtRow (Rl 4 [aw1, aw2] 2)).flatten := fun w' hb => by
  obtain ⟨e1, e2⟩ := aw_ents (B := B) (hk.grown hb) (hv.grown hb)
  have hr : Rd w' (some ⟨B, 0, none⟩) ([[b8 1, .slice (some ⟨K, 0, none⟩) 1 1, .slice (some ⟨V, 0, none⟩) 1 1], [b8 2, .slice none 0 0, .slice none 0 0]] : List (List Value)).flatten := Rd.of _ (hl.grown hb).whole
  refine ⟨hr, ents_two e1 e2, ?_⟩
  refine (roots_any 4 (by decide) (by decide) [aw1, aw2] (some ⟨B, 0, none⟩) 2 _ w' (hw.below hb) hr (ents_two e1 e2) (by decide)).mono ?_
  rintro e w'' ⟨h1, h | h⟩
  · exact absurd (show En.all [aw1, aw2] = 0 by decide) h.1
  · exact ⟨h1, h.2⟩
theorem rl_ok : ∀ r ∈ Rl 4 [aw1, aw2] 2, RtOk r := by
  intro r hr
  unfold Rl at hr
  obtain ⟨i, -, rfl⟩ := List.mem_map.1 hr
  exact Sn.root_ok2 4 (by decide) _ (by simp; omega)
set_option maxHeartbeats 1000000 in
set_option maxRecDepth 100000 in
theorem awake_any (w : World) (hw : Words w) : Calls Tryz.prog 8 #[] w fun e w' => e = .returned (.bool true) ∧ Below w.heap.size w w' := by
  have kc := fun (w : World) (C : Array Value) (n c : Nat) => Lib.run_convert_bytes_const (P := Tryz.prog) w 34 5 C n c Tryz.underlying34 Tryz.underlying5
  have kc2 : (convert 34 34 (.slice (some ⟨w.heap.size + 1, 0, none⟩) 1 1)).run Tryz.prog ((w.alloc (.cells #[.int .u8 107] 5 (1, 2))).alloc (.cells #[.int .u8 118] 5)) = .ok (.slice (some ⟨w.heap.size + 1, 0, none⟩) 1 1) ((w.alloc (.cells #[.int .u8 107] 5 (1, 2))).alloc (.cells #[.int .u8 118] 5 (1, 2))) := by
    have := kc (w.alloc (.cells #[.int .u8 107] 5 (1, 2))) #[.int .u8 118] 1 1
    rw [show (w.alloc (.cells #[.int .u8 107] 5 (1, 2))).heap.size = w.heap.size + 1 from by simp] at this
    exact this
  go_enter Tryz.func8, Tryz.ntmps8
  go_upto_region 2 with fail
  obtain ⟨K, hK⟩ : ∃ K, K = w.heap.size := ⟨_, rfl⟩
  have hw1 := aw_world w
  refine wp_world (fun w' => AwW w w') hw1 ?_
  clear hw1 kc kc2
  rintro w1 ⟨hl, hk, hv, hbl⟩
  have hbs := aw_build w1 (w.heap.size + 1 + 1) w.heap.size (w.heap.size + 1) hl hk hv (hw.below hbl)
  have hbs1 := aw_roots w1 (w.heap.size + 1 + 1) w.heap.size (w.heap.size + 1) hl hk hv (hw.below hbl)
  have HT := hid (And.intro hbs (And.intro hbs1 (And.intro hl (And.intro hk (And.intro hv hbl)))))
  have s1 := run_slice_to (P := Tryz.prog) Tryz.underlying22 (e := 36) (size := 3) (by kernel_rfl) (w.heap.size + 1 + 1) 0 2 2 1 (by omega)
  have s2 := run_slice_from (P := Tryz.prog) Tryz.underlying22 (e := 36) (size := 3) (by kernel_rfl) (w.heap.size + 1 + 1) 0 2 2 1 (by omega) (by omega)
  clear hbs hbs1 hl hk hv hbl hK
  go_region_held3 (fun _ => True) (exact True.intro)
    (first
      | (go_at_call 19
         with_reducible refine Calls.mono (HT.out.1 _ (Below.refl _ _)) ?_
         rintro ee w5 ⟨b5, S5, rfl, hb5, hs5⟩
         have H5 := hid (And.intro (gro (below_box w1 (.cells #[.int .u64 0, .slice (some ⟨w.heap.size + 1 + 1, 0, none⟩) 1 2, .int .u64 1, .slice (some ⟨w.heap.size + 1 + 1, 3, none⟩) 1 1] 47)) hb5) hs5)
         clear hb5 hs5)
      | (go_at_call 19
         with_reducible refine Calls.mono (HT.out.1 _ (Below.refl _ _).drew) ?_
         rintro ee w5 ⟨b5, S5, rfl, hb5, hs5⟩
         have H5 := hid (And.intro (gro (below_box w1 (.cells #[.int .u64 0, .slice (some ⟨w.heap.size + 1 + 1, 0, none⟩) 1 2, .int .u64 1, .slice (some ⟨w.heap.size + 1 + 1, 3, none⟩) 1 1] 47)) (show Below _ _ w5 from (Below.refl _ _).drew.trans (hb5.mono (Nat.le_refl _)))) hs5)
         clear hb5 hs5))
  all_goals
    have hr5 := HT.out.2.1 w5 H5.out.1
    have HR5 := hid hr5
    clear hr5
    go_upto_region 4 with (
      (go_at_call 9
       refine HR5.out.2.2.mono ?_
       rintro e w6 ⟨hb6, Ar, cr, rfl, hr6⟩
       have H6 := hid (And.intro hb6 hr6)
       clear hb6 hr6))
    have hok := Sn.root_ok2 4 (by decide) [aw1, aw2] (by decide)
    have hrl := rt_len hok
    have heq := run_eql_root _ hok
    obtain ⟨g6, o6, rfl, hr6⟩ := H6.out.2 (by
      intro e
      have := congrArg List.length e
      rw [flatten_len 65 _ (rtRow_len rl_ok)] at this
      simp [rtRow, Rl] at this)
    have hp6 : w6.rangeAt g6 (o6 + 130) (rtCells (Sn.root 4 [aw1, aw2])) := by
      have := range_part hr6 (rtRow_len rl_ok) 2 (by simp [rtRow, Rl])
      simpa [rtRow, Rl] using this
    have hsr : ∀ s : Fut w6, Calls Tryz.prog 29 #[ptr b5] s.v fun e w'' => e = .returned (.agg (rtCells (Sn.root 4 [aw1, aw2])).toArray) ∧ ∃ s' : Fut w6, w'' = s'.v := fun s => Calls.fut_of (snroot_any s.v (H5.out.2.grown (gro H6.out.1 s.below)) (by rw [Rbs_len]; decide))
    have hro : ∀ s : Fut w6, Calls Tryz.prog 37 #[.int .i64 4, .slice (some ⟨w.heap.size + 1 + 1, 0, none⟩) 2 2] s.v fun e w'' => e = .returned (.agg (rtCells (Sn.root 4 [aw1, aw2])).toArray) ∧ ∃ s' : Fut w6, w'' = s'.v := fun s => Calls.fut_of (rrootof_any 4 (by decide) [aw1, aw2] _ 2 2 _ s.v rfl (HR5.out.1.grown (gro H6.out.1 s.below)) (HR5.out.2.1.grown (gro H6.out.1 s.below)) (by decide) (by decide))
    obtain ⟨R, hR⟩ : ∃ R, R = rtCells (Sn.root 4 [aw1, aw2]) := ⟨_, rfl⟩
    rw [← hR] at hrl heq hp6 hsr hro
    have HC := hid (And.intro hsr (And.intro hro (range_fut hp6)))
    clear hsr hro hp6 hr6 hR hok
    refine wp_region_fut (by kernel_rfl) (by kernel_rfl) ?_
    repeat (first
      | (go_big_quiet_want; (with_reducible refine quiet_ld 42 (.tmp 48) g6 (o6 + 130) R 65 _ hrl HC.out.2.2 Tryz.underlying42 rfl (by kernel_rfl) ?_ ?_ ?_); rfl; rfl; simp only [Act.put, List.setIfInBounds_toArray, List.set_cons_zero, List.set_cons_succ]; go_big_quiet_on)
      | (go_big_quiet_want; (with_reducible refine quiet_ld 42 (.tmp 54) g6 (o6 + 130) R 65 _ hrl HC.out.2.2 Tryz.underlying42 rfl (by kernel_rfl) ?_ ?_ ?_); rfl; rfl; simp only [Act.put, List.setIfInBounds_toArray, List.set_cons_zero, List.set_cons_succ]; go_big_quiet_on)
      | go_big_quiet_step (first | with_reducible exact HC.out.1 _ | with_reducible exact HC.out.2.1 _))
    refine wpQuiet_nil ?_
    rintro _ ⟨s, rfl⟩
    go_wp2_with fail
    go_ret
    exact ⟨rfl, gro (gro HT.out.2.2.2.2.2 H5.out.1) (gro H6.out.1 s.below)⟩
end Go.Proofs.YtpnakfeafekneaaGreatDoor

/- The law ReplayRoots: its walk. -/
namespace Go.Proofs.YtpnakfeafekneaaGreatDoor
open Go.RowKit
theorem Rl_ok (n : Nat) (h2 : n ≤ 32) (es : List Ent) (k : Nat) (hk : k < 1048576) : ∀ r ∈ Rl n es k, RtOk r := by
  intro r hr
  unfold Rl at hr
  obtain ⟨i, hi, rfl⟩ := List.mem_map.1 hr
  rw [List.mem_range] at hi
  exact Sn.root_ok2 n h2 _ (by rw [List.length_take]; omega)
theorem rootsN_any (n : Nat) (h1 : 1 ≤ n) (h2 : n ≤ 32) (es : List Ent) (A : Option Addr) (m c : Nat) (L : List (List Value)) (w : World) (hw : Words w) (hm : es.length = m) (hA : Rd w A L.flatten) (hE : EntsAt w L es) (hn : m + 2 < 1048576) :
    Calls Tryz.prog 9 #[.int .i64 n, .slice A m c] w fun e w' => Below w.heap.size w w' ∧ ((En.all es ≠ 0 ∧ e = .returned (.tuple #[.slice none 0 0, .int .i64 (En.all es)])) ∨ (En.all es = 0 ∧ ∃ Ar cr, e = .returned (.tuple #[.slice Ar (m + 1) cr, .int .i64 0]) ∧ Rd w' Ar (rtRow (Rl n es m)).flatten)) := by
  subst hm; exact roots_any n h1 h2 es A c L w hw hA hE hn
theorem twinsN_any (es : List Ent) (A : Option Addr) (m c : Nat) (L : List (List Value)) (w : World) (hm : es.length = m) (hA : Rd w A L.flatten) (hE : EntsAt w L es) (hn : m < 1048576) (hb : ∀ e ∈ es, e.key.length ≤ 140737488355328 ∧ e.val.length ≤ 140737488355328) :
    Calls Tryz.prog 10 #[.slice A m c] w fun e w' => ∃ Ar cr L', e = .returned (.slice Ar m cr) ∧ Below w.heap.size w w' ∧ Rd w' Ar L'.flatten ∧ EntsTy w' L' es := by
  subst hm; exact twins_any es A c L w hA hE hn hb
set_option maxHeartbeats 1000000 in
set_option maxRecDepth 100000 in
theorem replayroots_any (x : Int) (es : List Ent) (A : Option Addr) (m c : Nat) (L : List (List Value)) (w : World) (hw : Words w) (hm : es.length = m) (hmc : m ≤ c) (hA : Rd w A L.flatten) (hE : EntsAt w L es) (hb : ∀ e ∈ es, e.key.length ≤ 140737488355328 ∧ e.val.length ≤ 140737488355328) :
    Calls Tryz.prog 3 #[.int .i64 x, .slice A m c] w fun e w' => e = .returned (.bool true) ∧ Below w.heap.size w w' := by
  by_cases h200 : 200 < m
  · have hi : (200 : Int) < (m : Int) := by omega
    clear hA hE hb hmc
    go_enter Tryz.func3, Tryz.ntmps3
    go_wp2_with (go_at_call 8
                 refine (awake_any w hw).mono ?_
                 rintro e w1 ⟨rfl, hb1⟩
                 have H1 := hid hb1
                 clear hb1)
    go_ret
    exact ⟨rfl, H1.out⟩
  · have hi : ¬ (200 : Int) < (m : Int) := by omega
    have HA := hid (And.intro hA (And.intro hE (And.intro hb (And.intro hm hw))))
    clear hA hE hb hm hw
    by_cases hx : 1 ≤ x ∧ x ≤ 32
    · obtain ⟨n, rfl⟩ := Int.eq_ofNat_of_zero_le (show 0 ≤ x by omega)
      have h1 : 1 ≤ n := by omega
      have h2 : n ≤ 32 := by omega
      have hok := Rl_ok n h2 es m (by omega)
      have hrl := Rl_len n es m
      by_cases hz : En.all es = 0
      · have HZ := hid hz
        clear hz
        go_enter Tryz.func3, Tryz.ntmps3
        go_wp2_with (first
          | (go_at_call 12
             refine (sameroots_any (Rl n es m) hok (m + 1) hrl (by omega) A3 c3 A4 c4 w4 (H3.out.2.grown H4.out.1) H4.out.2).mono ?_
             rintro e w5 ⟨rfl, hb5⟩
             have H5 := hid (gro (gro H3.out.1 H4.out.1) hb5)
             clear hb5)
          | (go_at_call 11
             refine (docroots_any n h1 h2 es A m c L w3 HA.out.2.2.2.1 hmc (HA.out.1.grown H3.out.1) (HA.out.2.1.grown H3.out.1) (by omega)).mono ?_
             rintro e w4 ⟨hb4, ⟨hne, -⟩ | ⟨-, A4, c4, rfl, hr4⟩⟩
             · exact absurd HZ.out hne
             have H4 := hid (And.intro hb4 hr4)
             clear hb4 hr4)
          | (go_at_call 9
             refine (rootsN_any n h1 h2 es A2 m c2 L2 w2 (HA.out.2.2.2.2.below H2.out.1) HA.out.2.2.2.1 H2.out.2.1 H2.out.2.2 (by omega)).mono ?_
             rintro e w3 ⟨hb3, ⟨hne, -⟩ | ⟨-, A3, c3, rfl, hr3⟩⟩
             · exact absurd HZ.out hne
             have H3 := hid (And.intro (gro H2.out.1 hb3) hr3)
             clear hb3 hr3)
          | (go_at_call 10
             refine (twinsN_any es A m c L w1 HA.out.2.2.2.1 (HA.out.1.grown H1.out) (HA.out.2.1.grown H1.out) (by omega) HA.out.2.2.1).mono ?_
             rintro e w2 ⟨A2, c2, L2, rfl, hb2, hr2, he2⟩
             have H2 := hid (And.intro (gro H1.out hb2) (And.intro hr2 he2.ents))
             clear hb2 hr2 he2)
          | (go_at_call 8
             refine (awake_any w HA.out.2.2.2.2).mono ?_
             rintro e w1 ⟨rfl, hb1⟩
             have H1 := hid hb1
             clear hb1))
        go_ret
        exact ⟨rfl, H5.out⟩
      · obtain ⟨z, hze⟩ : ∃ z, z = En.all es := ⟨_, rfl⟩
        have HZ := hid (And.intro hz hze)
        clear hz hze
        go_enter Tryz.func3, Tryz.ntmps3
        go_wp2_with (first
          | (go_at_call 12
             refine (sameroots_any [] (fun r hr => by cases hr) 0 rfl (by decide) none 0 none 0 _ (Rd.nil _ _) (Rd.nil _ _)).mono ?_
             rintro e w5 ⟨rfl, hb5⟩
             have H5 := hid (gro (gro H3.out H4.out) hb5)
             clear hb5)
          | (go_at_call 11
             refine (docroots_any n h1 h2 es A m c L w3 HA.out.2.2.2.1 hmc (HA.out.1.grown H3.out) (HA.out.2.1.grown H3.out) (by omega)).mono ?_
             rintro e w4 ⟨hb4, ⟨-, rfl⟩ | ⟨he, -⟩⟩
             rotate_left
             · exact absurd he HZ.out.1
             rw [← HZ.out.2]
             have H4 := hid hb4
             clear hb4)
          | (go_at_call 9
             refine (rootsN_any n h1 h2 es A2 m c2 L2 w2 (HA.out.2.2.2.2.below H2.out.1) HA.out.2.2.2.1 H2.out.2.1 H2.out.2.2 (by omega)).mono ?_
             rintro e w3 ⟨hb3, ⟨-, rfl⟩ | ⟨he, -⟩⟩
             rotate_left
             · exact absurd he HZ.out.1
             rw [← HZ.out.2]
             have H3 := hid (gro H2.out.1 hb3)
             clear hb3)
          | (go_at_call 10
             refine (twinsN_any es A m c L w1 HA.out.2.2.2.1 (HA.out.1.grown H1.out) (HA.out.2.1.grown H1.out) (by omega) HA.out.2.2.1).mono ?_
             rintro e w2 ⟨A2, c2, L2, rfl, hb2, hr2, he2⟩
             have H2 := hid (And.intro (gro H1.out hb2) (And.intro hr2 he2.ents))
             clear hb2 hr2 he2)
          | (go_at_call 8
             refine (awake_any w HA.out.2.2.2.2).mono ?_
             rintro e w1 ⟨rfl, hb1⟩
             have H1 := hid hb1
             clear hb1))
        go_ret
        exact ⟨rfl, H5.out⟩
    · have hx2 : x < 1 ∨ 32 < x := by omega
      go_enter Tryz.func3, Tryz.ntmps3
      go_wp2_with (first
          | (go_at_call 12
             refine (sameroots_any [] (fun r hr => by cases hr) 0 rfl (by decide) none 0 none 0 _ (Rd.nil _ _) (Rd.nil _ _)).mono ?_
             rintro e w5 ⟨rfl, hb5⟩
             have H5 := hid (gro H2.out.1 hb5)
             clear hb5)
          | (go_at_call 11
             refine (docroots_bad x hx A m c _).mono ?_
             rintro e w4 ⟨rfl, rfl⟩)
          | (go_at_call 9
             refine (roots_bad x hx2 A2 m c2 w2).mono ?_
             rintro e w3 ⟨rfl, rfl⟩)
          | (go_at_call 10
             refine (twinsN_any es A m c L w1 HA.out.2.2.2.1 (HA.out.1.grown H1.out) (HA.out.2.1.grown H1.out) (by omega) HA.out.2.2.1).mono ?_
             rintro e w2 ⟨A2, c2, L2, rfl, hb2, hr2, he2⟩
             have H2 := hid (And.intro (gro H1.out hb2) (And.intro hr2 he2.ents))
             clear hb2 hr2 he2)
          | (go_at_call 8
             refine (awake_any w HA.out.2.2.2.2).mono ?_
             rintro e w1 ⟨rfl, hb1⟩
             have H1 := hid hb1
             clear hb1))
      go_ret
      exact ⟨rfl, H5.out⟩
end Go.Proofs.YtpnakfeafekneaaGreatDoor

/- The law's own: good; TwinEntries as a row of the call's own. -/
namespace Go.Proofs.YtpnakfeafekneaaGreatDoor
open Go.RowKit
set_option maxHeartbeats 2000000 in
set_option maxRecDepth 100000 in
theorem twinsO_any (es : List Ent) (A : Option Addr) (c : Nat) (L : List (List Value)) (w : World) (hA : Rd w A L.flatten) (hE : EntsAt w L es) (hn : es.length < 1048576) (hb : ∀ e ∈ es, e.key.length ≤ 140737488355328 ∧ e.val.length ≤ 140737488355328) :
    Calls Tryz.prog 10 #[.slice A es.length c] w fun e w' => ∃ Ar cr L', e = .returned (.slice Ar es.length cr) ∧ Below w.heap.size w w' ∧ w'.ownsRow w.heap.size 36 3 (.slice Ar es.length cr) es.length L'.flatten ∧ EntsTy w' L' es := by
  have HA := hid (And.intro hA (And.intro hE hb))
  clear hA hE hb
  go_enter Tryz.func10, Tryz.ntmps10
  go_wp2_with fail
  go_loopg [3, 8] es.length (fun g s3 i wr => ∃ (j : Nat) (Ar : Option Addr) (cr : Nat) (L' : List (List Value)), j + g = es.length ∧ i = .int .i64 j ∧ s3 = .slice Ar j cr ∧ wr.ownsRow w.heap.size 36 3 (.slice Ar j cr) j L'.flatten ∧ EntsTy wr L' (es.take j) ∧ Below w.heap.size w wr)
  case atStart => exact ⟨0, none, 0, [], by omega, rfl, rfl, World.ownsRow_nil _ _ _ _, ⟨rfl, fun i x p h => by simp at h⟩, Below.refl _ _⟩
  case round =>
    obtain ⟨j, Ar, cr, L', hj, rfl, rfl, ho, he, hbl⟩ := hrel
    have HR := hid (And.intro ho (And.intro he hbl))
    clear ho he hbl
    by_cases hlt : j < es.length
    · obtain ⟨kind, key, val, hjj⟩ : ∃ kind key val, es[j]? = some ⟨kind, key, val⟩ := ⟨es[j].kind, es[j].key, es[j].val, by simp [hlt]⟩
      have hsub : es.take (j + 1) = es.take j ++ [⟨kind, key, val⟩] := by rw [List.take_succ_eq_append_getElem hlt, (List.getElem?_eq_some_iff.1 hjj).2]
      have hL := HA.out.2.1.len
      have hjl : j < L.length := by omega
      obtain ⟨g, o, rfl, hr⟩ := HA.out.1 (by
        intro e
        have := flatten_len 3 _ HA.out.2.1.three
        rw [e] at this
        simp at this; omega)
      have hp := range_part hr HA.out.2.1.three j hjl
      have hbk := HA.out.2.2 _ (List.mem_of_getElem? hjj)
      obtain ⟨A1, c1', A2, c2', hx, hr1, hr2, hc1, hc2⟩ := HA.out.2.1.at_ j L[j] ⟨kind, key, val⟩ (by simp [hjl]) hjj
      rw [hx] at hp
      simp only [] at hp
      have hlb := range_lt hp (by simp)
      have hp2 := range_below hp HR.out.2.2 hlb
      have hea : EntAt w [b8 kind, .slice A1 key.length c1', .slice A2 val.length c2'] ⟨kind, key, val⟩ := ⟨A1, c1', A2, c2', rfl, hr1, hr2, hc1, hc2⟩
      have hoc : ∀ v ∈ [b8 kind, .slice A1 key.length c1', .slice A2 val.length c2'], v.oneCell' = true := fun v hv => by
        simp only [List.mem_cons, List.not_mem_nil, or_false] at hv
        rcases hv with rfl | rfl | rfl <;> rfl
      have hp9 := (Blk.new wr 36 [b8 kind, .slice A1 key.length c1', .slice A2 val.length c2']).whole
      have HB := hid (below_box wr (.cells [b8 kind, .slice A1 key.length c1', .slice A2 val.length c2'].toArray 36))
      have HX := hid (And.intro hsub (And.intro hea hbk))
      have h63 : j + 1 ≤ maxLen := by simp only [maxLen]; omega
      have hby : (j + 1) * 56 ≤ 140737488355328 := by omega
      clear hr hr1 hr2 hx hp hc1 hc2 hL hlb hsub hea hbk
      go_wp2_with (first
        | ((with_reducible refine ld_mid 36 (.tmp 10) g (o + j * 3) _ 3 _ rfl hp2 Tryz.underlying36 rfl (by kernel_rfl) ?_ ?_ ?_ ?_); rfl; rfl; rfl)
        | ((with_reducible refine st_new 36 (.tmp 5) (.tmp 11) _ _ [b8 kind, .slice A1 key.length c1', .slice A2 val.length c2'] 3 rfl ?_ (by kernel_rfl) hoc ?_ ?_ ?_ ?_ ?_); rfl; rfl; rfl; rfl; rfl)
        | ((with_reducible refine ld_mid 36 (.tmp 5) wr.heap.size 0 _ 3 _ rfl hp9 Tryz.underlying36 rfl (by kernel_rfl) ?_ ?_ ?_ ?_); rfl; rfl; rfl)
        | (go_at_call 41
           refine (twinE_any _ ⟨kind, key, val⟩ _ (HX.out.2.1.grown (gro HR.out.2.2 HB.out)) HX.out.2.2.1 HX.out.2.2.2).mono ?_
           rintro e w7 ⟨y, rfl, hb7, hy⟩
           have hyl : ∀ x ∈ [y], x.length = 3 := (fun x hx => by rw [List.mem_singleton] at hx; subst hx; exact hy.len)
           have hyl2 : [y].flatten.length = 1 * 3 := (by simpa using hy.len)
           have hyo : ∀ v ∈ [y].flatten, v.oneCell' = true := (fun v hv => hy.oc v (by simpa using hv))
           have hb8 := gro (gro HB.out hb7) (below_box w7 (.cells [y].flatten.toArray 36))
           have own8 := own_grown HR.out.1 hb8
           have hr8 := Rd.of _ (Blk.new w7 36 [y].flatten).whole
           have hbs8 := (gro HR.out.2.2 hb8).size
           have H8 := hid (And.intro hb8 (And.intro own8 (And.intro hr8 (hy.stay (Stay.of_grown (below_box w7 (.cells [y].flatten.toArray 36)))))))
           clear hb7 hy hb8 own8 hr8)
        | ((with_reducible refine bs_own 22 36 1 #[(0, .tmp 14)] [y] 3 (by decide) hyl rfl (by decide) (by decide) Tryz.underlying22 (by kernel_rfl) ?_ ?_ ?_ ?_); rfl; rfl; rfl)
        | ((with_reducible refine ap_own (.tmp 12) (.tmp 15) 22 Tryz.underlying22 info_entry rfl (by decide) H8.out.2.1 1 1 hyl2 H8.out.2.2.1 hyo h63 hby hbs8 ?_ ?_ ?_ ?_ ?_); rfl; rfl; rfl; rfl
           intro v9 w9 hn1 hn2 hn3 hn4
           obtain ⟨A9, c9, rfl, hr9, hc9⟩ := rd_own hn1
           have p9 := (But.append H8.out.2.1 hn2).pure (by decide)
           have hb9 := grownBy_below H8.out.2.1 (gro HR.out.2.2 H8.out.1) hbs8 hn2
           have he9 := ((HR.out.2.1.grown H8.out.1).append (EntsTy.one H8.out.2.2.2)).stay p9
           have H9 := hid (And.intro hn1 (And.intro he9 hb9))
           clear hn1 hn2 hn3 hn4 hr9 hc9 p9 hb9 he9))
      go_roundg (gk - 1)
      case measure => omega
      case rel =>
        refine ⟨j + 1, A9, c9, L' ++ [y], by omega, by go_num, rfl, ?_, ?_, H9.out.2.2⟩
        · rw [List.flatten_append]; exact H9.out.1
        · rw [HX.out.1]; exact H9.out.2.1
    · obtain rfl : j = es.length := by omega
      have hel := HR.out.2.1
      rw [List.take_length] at hel
      have HE9 := hid hel
      have HO9 := hid HR.out.1
      clear hel
      go_wp2_with fail
      go_ret
      exact ⟨Ar, cr, L', rfl, HR.out.2.2, HO9.out, HE9.out⟩
/-- The entries that may be appended. -/
def En.good (es : List Ent) : List Ent := es.filter fun e => decide (En.check e = 0)
theorem En.good_take (es : List Ent) (j : Nat) (hj : j < es.length) : En.good (es.take (j + 1)) = if En.check es[j] = 0 then En.good (es.take j) ++ [es[j]] else En.good (es.take j) := by
  unfold En.good
  rw [List.take_succ_eq_append_getElem hj, List.filter_append]
  by_cases h : En.check es[j] = 0
  · simp [h]
  · simp [h]
theorem En.good_le (es : List Ent) : (En.good es).length ≤ es.length := List.length_filter_le _ _
theorem ents_append {w : World} {L1 L2 : List (List Value)} {m1 m2 : List Ent} (h1 : EntsAt w L1 m1) (h2 : EntsAt w L2 m2) : EntsAt w (L1 ++ L2) (m1 ++ m2) := by
  refine ⟨by simp [h1.len, h2.len], fun i x p hx hp => ?_⟩
  have hl := h1.len
  by_cases hi : i < L1.length
  · rw [List.getElem?_append_left hi] at hx
    rw [List.getElem?_append_left (by omega)] at hp
    exact h1.at_ i x p hx hp
  · rw [List.getElem?_append_right (by omega)] at hx
    rw [List.getElem?_append_right (by omega)] at hp
    exact h2.at_ _ x p hx (by rw [hl]; exact hp)
set_option maxHeartbeats 2000000 in
set_option maxRecDepth 100000 in
theorem good_any (es : List Ent) (A : Option Addr) (m c : Nat) (L : List (List Value)) (w : World) (hm : es.length = m) (hA : Rd w A L.flatten) (hE : EntsAt w L es) (hn : m < 1048576) :
    Calls Tryz.prog 13 #[.slice A m c] w fun e w' => ∃ Ar k cr L', e = .returned (.slice Ar k cr) ∧ Below w.heap.size w w' ∧ (En.good es).length = k ∧ k ≤ cr ∧ Rd w' Ar L'.flatten ∧ EntsAt w L' (En.good es) := by
  have HA := hid (And.intro hA (And.intro hE hm))
  clear hA hE hm
  go_enter Tryz.func13, Tryz.ntmps13
  go_wp2_with fail
  go_loopg [3, 8] m (fun g s3 i wr => ∃ (j : Nat) (Ar : Option Addr) (k cr : Nat) (L' : List (List Value)), j + g = m ∧ k ≤ j ∧ i = .int .i64 j ∧ s3 = .slice Ar k cr ∧ wr.ownsRow w.heap.size 36 3 (.slice Ar k cr) k L'.flatten ∧ EntsAt w L' (En.good (es.take j)) ∧ (En.good (es.take j)).length = k ∧ Below w.heap.size w wr)
  case atStart => exact ⟨0, none, 0, 0, [], by omega, Nat.le_refl _, rfl, rfl, World.ownsRow_nil _ _ _ _, ⟨rfl, fun i x p h => by simp at h⟩, rfl, Below.refl _ _⟩
  case round =>
    obtain ⟨j, Ar, k, cr, L', hj, hkj, rfl, rfl, ho, he, hkl, hbl⟩ := hrel
    have HR := hid (And.intro ho (And.intro he (And.intro hbl hkl)))
    clear ho he hbl hkl
    by_cases hlt : j < m
    · have hje : j < es.length := by have := HA.out.2.2; omega
      have hgt := En.good_take es j hje
      obtain ⟨kind, key, val, hjj⟩ : ∃ kind key val, es[j]? = some ⟨kind, key, val⟩ := ⟨es[j].kind, es[j].key, es[j].val, by simp [hje]⟩
      rw [(List.getElem?_eq_some_iff.1 hjj).2] at hgt
      have hL := HA.out.2.1.len
      have hjl : j < L.length := by omega
      obtain ⟨g, o, rfl, hr⟩ := HA.out.1 (by
        intro e
        have := flatten_len 3 _ HA.out.2.1.three
        rw [e] at this
        simp at this; omega)
      have hp := range_part hr HA.out.2.1.three j hjl
      have hat := HA.out.2.1.at_ j L[j] ⟨kind, key, val⟩ (by simp [hjl]) hjj
      obtain ⟨A1, c1', A2, c2', hx, hr1, hr2, hc1, hc2⟩ := hat
      rw [hx] at hp
      simp only [] at hp
      have hlb := range_lt hp (by simp)
      have hp2 := range_below hp HR.out.2.2.1 hlb
      have hea : EntAt w [b8 kind, .slice A1 key.length c1', .slice A2 val.length c2'] ⟨kind, key, val⟩ := ⟨A1, c1', A2, c2', rfl, hr1, hr2, hc1, hc2⟩
      obtain ⟨y, hy⟩ : ∃ y, y = [b8 kind, .slice A1 key.length c1', .slice A2 val.length c2'] := ⟨_, rfl⟩
      have hoc : ∀ v ∈ y, v.oneCell' = true := fun v hv => by
        rw [hy] at hv
        simp only [List.mem_cons, List.not_mem_nil, or_false] at hv
        rcases hv with rfl | rfl | rfl <;> rfl
      have hyl : y.length = 3 := by rw [hy]; rfl
      have hcc : ∀ w', Calls Tryz.prog 43 #[.agg y.toArray] w' fun e w'' => e = .returned (.int .i64 (En.check ⟨kind, key, val⟩)) ∧ Below w'.heap.size w' w'' := fun w' => by rw [hy]; exact doccheck_e kind A1 A2 key.length c1' val.length c2' w'
      rw [← hy] at hp2 hea
      obtain ⟨z, hz⟩ : ∃ z, z = En.check ⟨kind, key, val⟩ := ⟨_, rfl⟩
      rw [← hz] at hcc hgt
      have hp9 := (Blk.new wr 36 y).whole
      have hb1 := below_box wr (.cells y.toArray 36)
      have hsl : ∀ x ∈ [y], x.length = 3 := fun x hx => by rw [List.mem_singleton] at hx; subst hx; exact hyl
      have hsl2 : [y].flatten.length = 1 * 3 := by simp [hyl]
      have hso : ∀ v ∈ [y].flatten, v.oneCell' = true := fun v hv => hoc v (by simpa using hv)
      have h63 : k + 1 ≤ maxLen := by simp only [maxLen]; omega
      have hby : (k + 1) * 56 ≤ 140737488355328 := by omega
      have HX := hid (And.intro hea (And.intro hcc (And.intro hgt (And.intro hb1 hp9))))
      clear hr hr1 hr2 hx hp hc1 hc2 hL hlb hea hcc hgt hb1 hy hz
      by_cases hz0 : z = 0
      · subst hz0
        go_wp2_with (first
          | ((with_reducible refine ld_mid 36 (.tmp 10) g (o + j * 3) y 3 _ hyl hp2 Tryz.underlying36 rfl (by kernel_rfl) ?_ ?_ ?_ ?_); rfl; rfl; rfl)
          | ((with_reducible refine st_new 36 (.tmp 5) (.tmp 11) _ _ y 3 hyl ?_ (by kernel_rfl) hoc ?_ ?_ ?_ ?_ ?_); rfl; rfl; rfl; rfl; rfl)
          | (go_at_call 43
             refine (HX.out.2.1 _).mono ?_
             rintro e7 w7 ⟨rfl, hb7⟩
             have hp7 := range_grown HX.out.2.2.2.2 hb7
             have hb8 := gro (gro HX.out.2.2.2.1 hb7) (below_box w7 (.cells [y].flatten.toArray 36))
             have own8 := own_grown HR.out.1 hb8
             have hr8 := Rd.of _ (Blk.new w7 36 [y].flatten).whole
             have hbs8 := (gro HR.out.2.2.1 hb8).size
             have H8 := hid (And.intro hb8 (And.intro own8 hr8))
             clear hb7 hb8 own8 hr8)
          | ((with_reducible refine ld_mid 36 (.tmp 5) wr.heap.size 0 y 3 _ hyl hp7 Tryz.underlying36 rfl (by kernel_rfl) ?_ ?_ ?_ ?_); rfl; rfl; rfl)
          | ((with_reducible refine ld_mid 36 (.tmp 5) wr.heap.size 0 y 3 _ hyl hp9 Tryz.underlying36 rfl (by kernel_rfl) ?_ ?_ ?_ ?_); rfl; rfl; rfl)
          | ((with_reducible refine bs_own 22 36 1 #[(0, .tmp 16)] [y] 3 (by decide) hsl rfl (by decide) (by decide) Tryz.underlying22 (by kernel_rfl) ?_ ?_ ?_ ?_); rfl; rfl; rfl)
          | ((with_reducible refine ap_own (.tmp 15) (.tmp 17) 22 Tryz.underlying22 info_entry rfl (by decide) H8.out.2.1 1 1 hsl2 H8.out.2.2 hso h63 hby hbs8 ?_ ?_ ?_ ?_ ?_); rfl; rfl; rfl; rfl
             intro v9 w9 hn1 hn2 hn3 hn4
             obtain ⟨A9, c9, rfl, hr9, hc9⟩ := rd_own hn1
             have H9 := hid (And.intro hn1 (grownBy_below H8.out.2.1 (gro HR.out.2.2.1 H8.out.1) hbs8 hn2))
             clear hn1 hn2 hn3 hn4 hr9 hc9))
        go_roundg (gk - 1)
        case measure => omega
        case rel =>
          have hg := HX.out.2.2.1
          simp only [if_true] at hg
          exact ⟨j + 1, A9, k + 1, c9, L' ++ [y], by omega, by omega, by go_num, rfl, by rw [List.flatten_append]; exact H9.out.1, by rw [hg]; exact ents_append HR.out.2.1 (ents_one HX.out.1), by rw [hg, List.length_append, HR.out.2.2.2]; rfl, H9.out.2⟩
      · have hzi : ¬ (z : Int) = 0 := by omega
        go_wp2_with (first
          | ((with_reducible refine ld_mid 36 (.tmp 10) g (o + j * 3) y 3 _ hyl hp2 Tryz.underlying36 rfl (by kernel_rfl) ?_ ?_ ?_ ?_); rfl; rfl; rfl)
          | ((with_reducible refine st_new 36 (.tmp 5) (.tmp 11) _ _ y 3 hyl ?_ (by kernel_rfl) hoc ?_ ?_ ?_ ?_ ?_); rfl; rfl; rfl; rfl; rfl)
          | ((with_reducible refine ld_mid 36 (.tmp 5) wr.heap.size 0 y 3 _ hyl hp9 Tryz.underlying36 rfl (by kernel_rfl) ?_ ?_ ?_ ?_); rfl; rfl; rfl)
          | (go_at_call 43
             refine (HX.out.2.1 _).mono ?_
             rintro e7 w7 ⟨rfl, hb7⟩
             have H7 := hid (gro HX.out.2.2.2.1 hb7)
             clear hb7))
        go_roundg (gk - 1)
        case measure => omega
        case rel =>
          have hg := HX.out.2.2.1
          rw [if_neg hz0] at hg
          exact ⟨j + 1, Ar, k, cr, L', by omega, by omega, by go_num, rfl, own_grown HR.out.1 H7.out, by rw [hg]; exact HR.out.2.1, by rw [hg]; exact HR.out.2.2.2, gro HR.out.2.2.1 H7.out⟩
    · obtain rfl : j = m := by omega
      have hel := HR.out.2.1
      have hkl := HR.out.2.2.2
      rw [List.take_of_length_le (by have := HA.out.2.2; omega)] at hel hkl
      obtain ⟨hr9, hc9⟩ := own_rd HR.out.1
      have HE9 := hid (And.intro hr9 (And.intro hel (And.intro hkl hc9)))
      clear hr9 hel hkl hc9
      go_wp2_with fail
      go_ret
      exact ⟨Ar, k, cr, L', rfl, HR.out.2.2.1, HE9.out.2.2.1, HE9.out.2.2.2, HE9.out.1, HE9.out.2.1⟩
end Go.Proofs.YtpnakfeafekneaaGreatDoor

/- The law's count of batches and their entries. -/
namespace Go.Proofs.YtpnakfeafekneaaGreatDoor
open Go.RowKit
theorem flatten_snoc {α : Type} (bs : List (List α)) (j : Nat) (hj : j < bs.length) : (bs.take (j + 1)).flatten.length = (bs.take j).flatten.length + bs[j].length := by
  rw [List.take_succ_eq_append_getElem hj, List.flatten_append, List.length_append]; simp
set_option maxHeartbeats 2000000 in
set_option maxRecDepth 100000 in
theorem lcount_any (bs : List (List Ent)) (Fs : List Nat) (A : Option Addr) (m c : Nat) (X : List (List Value)) (w : World) (hm : bs.length = m) (hA : Rd w A X.flatten) (hX : BatsAt w X Fs bs) (hn : m + bs.flatten.length < 4611686018427387904) :
    Calls Tryz.prog 17 #[.slice A m c] w fun e w' => e = .returned (.int .i64 (m + bs.flatten.length : Nat)) ∧ Below w.heap.size w w' := by
  have HA := hid (And.intro hA (And.intro hX (And.intro hm hn)))
  clear hA hX hm
  go_enter Tryz.func17, Tryz.ntmps17
  go_wp2_with fail
  go_loopg [3, 10] m (fun g s3 i wr => ∃ j K : Nat, j + g = m ∧ i = .int .i64 j ∧ K = m + (bs.take j).flatten.length ∧ s3 = .int .i64 K ∧ Below w.heap.size w wr)
  case atStart => exact ⟨0, m, by omega, rfl, by simp, rfl, Below.refl _ _⟩
  case round =>
    obtain ⟨j, K, hj, rfl, hK, rfl, hbl⟩ := hrel
    have HR := hid (And.intro hbl hK)
    clear hbl hK
    by_cases hlt : j < m
    · have hjb : j < bs.length := by rw [HA.out.2.2.1]; exact hlt
      have hl1 := HA.out.2.1.len
      have hl2 := HA.out.2.1.lenF
      have hjX : j < X.length := by omega
      have hjF : j < Fs.length := by omega
      obtain ⟨g, o, rfl, hr⟩ := HA.out.1 (by
        intro e
        have := flatten_len 2 _ HA.out.2.1.all2
        rw [e] at this
        simp at this; omega)
      have hp := range_part hr HA.out.2.1.all2 j hjX
      obtain ⟨A1, c1, L1, hx, hr1, he1⟩ := HA.out.2.1.at_ j X[j] Fs[j] bs[j] (by simp [hjX]) (by simp [hjF]) (by simp [hjb])
      rw [hx] at hp
      have hlb := range_lt hp (by simp)
      have hp2 := range_below hp HR.out.1 hlb
      have htl := flatten_take_le bs (j + 1)
      have hsn := flatten_snoc bs j hjb
      obtain ⟨F, hFe⟩ : ∃ F, F = Fs[j] := ⟨_, rfl⟩
      obtain ⟨M, hM⟩ : ∃ M, M = bs[j].length := ⟨_, rfl⟩
      rw [← hFe, ← hM] at hp2
      rw [← hM] at hsn
      have hoc : ∀ v ∈ [Value.int .u64 F, .slice A1 M c1], v.oneCell' = true := fun v hv => by
        simp only [List.mem_cons, List.not_mem_nil, or_false] at hv
        rcases hv with rfl | rfl <;> rfl
      have hp9 : (wr.alloc (.cells [Value.int .u64 F, .slice A1 M c1].toArray 47)).cell? ⟨wr.heap.size, 1, none⟩ = some (.slice A1 M c1) := by rw [(Blk.new wr 47 [.int .u64 F, .slice A1 M c1]).cell]; rfl
      have hwr : IntKind.i64.wrap ((K : Int) + (M : Int)) = ((K + M : Nat) : Int) := by
        have h0 := HR.out.2
        rw [IntKind.wrap_i64]; push_cast; omega
      have HC := hid (And.intro hsn (below_box wr (.cells [Value.int .u64 F, .slice A1 M c1].toArray 47)))
      clear htl hsn hr hr1 he1 hx hp hlb hFe hM hl1 hl2
      go_wp2_with (first
        | ((with_reducible refine ld_mid 47 (.tmp 12) g (o + j * 2) _ 2 _ rfl hp2 Tryz.underlying47 rfl (by kernel_rfl) ?_ ?_ ?_ ?_); rfl; rfl; rfl)
        | ((with_reducible refine st_new 47 (.tmp 5) (.tmp 13) _ _ [.int .u64 F, .slice A1 M c1] 2 rfl ?_ (by kernel_rfl) hoc ?_ ?_ ?_ ?_ ?_); rfl; rfl; rfl; rfl; rfl))
      go_roundg (gk - 1)
      case measure => omega
      case rel => exact ⟨j + 1, K + M, by omega, by go_num, by rw [HC.out.1, HR.out.2]; omega, by first | rfl | go_num, gro HR.out.1 HC.out.2⟩
    · obtain rfl : j = m := by omega
      have hK := HR.out.2
      rw [List.take_of_length_le (by rw [HA.out.2.2.1]; exact Nat.le_refl _)] at hK
      have HK := hid hK
      clear hK
      go_wp2_with fail
      go_ret
      exact ⟨by first | rfl | (rw [HK.out]; rfl), HR.out.1⟩
end Go.Proofs.YtpnakfeafekneaaGreatDoor
