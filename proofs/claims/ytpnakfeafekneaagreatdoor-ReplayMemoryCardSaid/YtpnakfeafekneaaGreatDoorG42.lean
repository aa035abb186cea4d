/- Part 42 of this proof: MH, MI, ZB, MJ, ZC. -/
import Derived.Test.YtpnakfeafekneaaGreatDoorG39
import Derived.Test.YtpnakfeafekneaaGreatDoorG41
set_option linter.unusedSimpArgs false
set_option linter.unusedVariables false
namespace Go.Proofs.YtpnakfeafekneaaGreatDoor
open Go.RowKit
def bkRow (bks : List (Nat × Nat)) : List Value := bks.map fun b => .slice (some ⟨b.1, 0, none⟩) b.2 b.2
theorem bkRow_len (bks : List (Nat × Nat)) : (bkRow bks).length = bks.length := by simp [bkRow]
structure Bks (A : Option Addr) (bks : List (Nat × Nat)) : Prop where
  inj : ∀ (i j : Nat) (b c : Nat × Nat), bks[i]? = some b → bks[j]? = some c → b.1 = c.1 → i = j
  far : ∀ a, A = some a → ∀ b ∈ bks, a.block ≠ b.1
  small : ∀ b ∈ bks, b.2 < 500
structure Als (w : World) (A : Option Addr) (bks : List (Nat × Nat)) (f : Nat → List UInt8) : Prop where
  row : Rd w A (bkRow bks)
  blk : ∀ (i : Nat) (b : Nat × Nat), bks[i]? = some b → Blk w b.1 5 ((f i).map b8) ∧ (f i).length = b.2
theorem Als.grown {w w' : World} {A : Option Addr} {bks : List (Nat × Nat)} {f : Nat → List UInt8} (h : Als w A bks f) (hb : Below w.heap.size w w') : Als w' A bks f :=
  ⟨h.row.grown hb, fun i b hi => ⟨(h.blk i b hi).1.grown hb, (h.blk i b hi).2⟩⟩
theorem Als.write {w w' : World} {A : Option Addr} {bks : List (Nat × Nat)} {f : Nat → List UInt8} (h : Als w A bks f) (hB : Bks A bks) {i : Nat} {b : Nat × Nat} (hi : bks[i]? = some b) (l : List UInt8) (hl : l.length = b.2) (hk : Kept (· = b.1) w w') (hb : Blk w' b.1 5 (l.map b8)) : Als w' A bks (fun j => if j = i then l else f j) := by
  refine ⟨h.row.kept hk fun a ha _ hs => hB.far a ha b (List.mem_of_getElem? hi) hs, fun j c hj => ?_⟩
  by_cases hji : j = i
  · subst hji
    rw [hi] at hj
    cases hj
    simp only [if_pos rfl]
    exact ⟨hb, hl⟩
  · simp only [if_neg hji]
    exact ⟨hk.blk (h.blk j c hj).1 fun e => hji (hB.inj j i c b hj hi e), (h.blk j c hj).2⟩
theorem Als.cell {w : World} {A : Option Addr} {bks : List (Nat × Nat)} {f : Nat → List UInt8} (h : Als w A bks f) {i : Nat} {b : Nat × Nat} (hi : bks[i]? = some b) : ∃ g o, A = some ⟨g, o, none⟩ ∧ w.cell? ⟨g, o + i, none⟩ = some (.slice (some ⟨b.1, 0, none⟩) b.2 b.2) := by
  have hil := (List.getElem?_eq_some_iff.1 hi).1
  obtain ⟨g, o, e, hr⟩ := h.row (by intro e; have := congrArg List.length e; rw [bkRow_len] at this; simp at this; simp [this] at hil)
  exact ⟨g, o, e, hr i _ (by simp [bkRow, hi])⟩
def InBks (bks : List (Nat × Nat)) (k : Nat) : Prop := ∃ b ∈ bks, k = b.1
theorem mark_part (r i n j : Nat) (l : List UInt8) (hl : l.length = n) (hj : j < n) : (Mem.marks r i 0 j ++ l.drop j).set j (Mem.mark r i j) = Mem.marks r i 0 (j + 1) ++ l.drop (j + 1) := by
  rw [List.set_append_right _ _ (by rw [Mem.marks_len]; exact Nat.le_refl _), Mem.marks_len, Nat.sub_self, List.drop_eq_getElem_cons (by omega), List.set_cons_zero, Mem.marks_succ, Nat.zero_add, List.append_assoc]
  rfl
theorem info_su8 : (Tryz.prog.info? 34).map (fun i => (i.zero, i.size, i.bytes)) = some (some (.slice none 0 0), 1, 24) := by kernel_rfl
def GrAt (w : World) (r i : Nat) (v : Value) : Prop := ∃ A N c, v = .slice A N c ∧ N < 1024 ∧ Rd w A ((Mem.marks r i 0 N).map b8) ∧ Tyd w 5 A
theorem GrAt.grown {w w' : World} {r i : Nat} {v : Value} (h : GrAt w r i v) (hb : Below w.heap.size w w') : GrAt w' r i v := by
  obtain ⟨A, N, c, e, h1, h2, h3⟩ := h
  exact ⟨A, N, c, e, h1, h2.grown hb, h3.grown hb⟩
theorem GrAt.but {w w' : World} {r i : Nat} {v : Value} (h : GrAt w r i v) (hb : But 34 w w') : GrAt w' r i v := by
  obtain ⟨A, N, c, e, h1, h2, h3⟩ := h
  exact ⟨A, N, c, e, h1, Stay.rd hb h2 h3 (by decide), Stay.tyd hb h3 (by decide)⟩
theorem GrAt.of {w : World} {base r i n q : Nat} {v : Value} (h : w.ownsRow base 5 1 v (n + q) ((Mem.marks r i 0 n ++ Mem.marks r i n q).map b8)) (hn : n < 500) (hq : q < 100) : GrAt w r i v := by
  obtain ⟨A, c, rfl, hr, -⟩ := rd_own h
  rw [← Mem.marks_zero] at hr
  exact ⟨A, n + q, c, rfl, by omega, hr, own_tyd h⟩
theorem step_at {w : World} {g : Nat} (h : w.rangeAt g 0 [.int .i64 1, .int .i64 24, .int .i64 90]) (S : Nat) (hS : S < 3) : ∃ st : Nat, 0 < st ∧ st < 100 ∧ w.cell? ⟨g, S, none⟩ = some (.int .i64 st) := by
  have h0 := h S
  rw [Nat.zero_add] at h0
  match S, hS with
  | 0, _ => exact ⟨1, by omega, by omega, h0 _ rfl⟩
  | 1, _ => exact ⟨24, by omega, by omega, h0 _ rfl⟩
  | 2, _ => exact ⟨90, by omega, by omega, h0 _ rfl⟩
set_option maxHeartbeats 8000000 in
set_option maxRecDepth 100000 in
theorem apart_any (A : Option Addr) (N c : Nat) (bks : List (Nat × Nat)) (f : Nat → List UInt8) (w : World) (hN : bks.length = N) (hB : Bks A bks) (hA : Als w A bks f) (hNb : N < 1024) :
    Calls Tryz.prog 28 #[.slice A N c] w fun e w' => e = .returned (.bool true) ∧ Kept (InBks bks) w w' := by
  have HA := hid (And.intro hN (And.intro hB hA))
  clear hN hB hA
  go_enter Tryz.func28, Tryz.ntmps28
  go_wp2_with fail
  go_loopg [3] 2 (fun g x wr => ∃ (r : Nat) (f : Nat → List UInt8), r + g = 2 ∧ x = .int .i64 r ∧ Als wr A bks f ∧ Kept (InBks bks) w wr)
  case atStart => exact ⟨0, f, by omega, rfl, HA.out.2.2, Kept.refl _ _⟩
  case round =>
    obtain ⟨r, f1, hr, rfl, hA, hk⟩ := hrel
    have HR := hid (And.intro hA hk)
    clear hA hk
    by_cases hlt : r < 2
    · have hq : decide ((r : Int) < 2) = true := decide_eq_true (by omega)
      go_wp2_with fail
      clear hq
      rename World => w1
      go_loopg [17] N (fun g x wr => ∃ (I : Nat) (f : Nat → List UInt8), I + g = N ∧ x = .int .i64 I ∧ Als wr A bks f ∧ Kept (InBks bks) w wr ∧ ∀ (i : Nat) (b : Nat × Nat), i < I → bks[i]? = some b → f i = Mem.marks r i 0 b.2)
      case atStart => exact ⟨0, f1, by omega, rfl, HR.out.1, HR.out.2, fun i b h => absurd h (Nat.not_lt_zero _)⟩
      case round =>
        clear HR
        obtain ⟨I, f2, hI, rfl, hA, hk, hm⟩ := hrel
        have HR := hid (And.intro hA (And.intro hk hm))
        clear hA hk hm
        by_cases hltI : I < N
        · obtain ⟨b, hb⟩ : ∃ b, bks[I]? = some b := ⟨bks[I]'(by rw [HA.out.1]; exact hltI), by simp⟩
          obtain ⟨g0, o0, rfl, hc⟩ := HR.out.1.cell hb
          have hbs := HA.out.2.1.small b (List.mem_of_getElem? hb)
          obtain ⟨gb, nb⟩ := b
          have hbs : nb < 500 := hbs
          have HB := hid hb
          clear hb
          go_wp2_with fail
          rename World => w2
          have hbl := (HR.out.1.blk I (gb, nb) HB.out)
          have hne : g0 ≠ gb := HA.out.2.1.far _ rfl (gb, nb) (List.mem_of_getElem? HB.out)
          have HG := hid (And.intro hbl (And.intro hc hne))
          clear hbl hc hne
          go_loopg [25] nb (fun g x wr => ∃ j : Nat, j + g = nb ∧ x = .int .i64 j ∧ Blk wr gb 5 ((Mem.marks r I 0 j ++ (f2 I).drop j).map b8) ∧ Kept (· = gb) w2 wr)
          case atStart => exact ⟨0, by omega, rfl, by simpa [Mem.marks] using HG.out.1.1, Kept.refl _ _⟩
          case round =>
            obtain ⟨j, hj, rfl, hb, hk⟩ := hrel
            by_cases hltj : j < nb
            · have hlen : (f2 I).length = nb := HG.out.1.2
              have hci : wr.cell? ⟨g0, o0 + I, none⟩ = some (.slice (some ⟨gb, 0, none⟩) nb nb) := hk.cell HG.out.2.1 HG.out.2.2
              have hset := mark_part r I nb j (f2 I) hlen hltj
              have q1 := Fut.cell hci
              have hj2 : j < 1024 := by omega
              have hI2 : I < 1024 := by omega
              have hcf : ∀ s : Fut wr, Calls Tryz.prog 51 #[.int .i64 r, .int .i64 I, .int .i64 j] s.v fun e w'' => e = .returned (b8 (Mem.mark r I j)) ∧ ∃ s' : Fut wr, w'' = s'.v := fun s => Calls.fut_of (mark_any r I j hI2 hj2 s.v)
              have HC := hid (And.intro hcf (And.intro hset (And.intro hb hk)))
              have HLN := hid hlen
              clear hcf hset hb hk hci hlen
              go_upto_region 10 with fail
              refine wp_region_fut_tail 10 (by kernel_rfl) (by kernel_rfl) ?_
              dsimp only [List.take_succ_cons, List.take_zero, List.drop_succ_cons, List.drop_zero]
              repeat go_big_quiet_step (with_reducible exact HC.out.1 _)
              refine wpQuiet_nil ?_
              rintro _ ⟨s, rfl⟩
              clear q1
              have h4 := HC.out.2.2.1.grown s.below
              have hf := h4.frozen j
              have hcj : ∃ v, s.v.cell? ⟨gb, j, none⟩ = some v := ⟨_, by rw [h4.cell]; exact List.getElem?_eq_getElem (by simp [Mem.marks_len, HLN.out]; omega)⟩
              obtain ⟨vj, hcj⟩ := hcj
              have h5 := h4.set_ j (b8 (Mem.mark r I j))
              rw [← List.map_set, HC.out.2.1] at h5
              have H5 := hid (And.intro h5 ((HC.out.2.2.2.trans (Kept.of_grown s.below)).set1 j (b8 (Mem.mark r I j))))
              clear h4 h5
              go_wp2_with fail
              go_roundg (gk - 1)
              case measure => omega
              case rel => exact ⟨j + 1, by omega, by go_num, H5.out.1, H5.out.2⟩
            · obtain rfl : j = nb := by omega
              have hlen : (f2 I).length = j := HG.out.1.2
              rw [List.drop_of_length_le (by omega), List.append_nil] at hb
              have hA3 := HR.out.1.write HA.out.2.1 HB.out (Mem.marks r I 0 j) (Mem.marks_len _ _ _ _) hk hb
              have hk3 : Kept (InBks bks) w wr := HR.out.2.1.trans (hk.mono fun k _ e => ⟨(gb, j), List.mem_of_getElem? HB.out, e⟩)
              have H6 := hid (And.intro hA3 hk3)
              clear hb hk hA3 hk3 hlen
              go_wp2_with fail
              go_roundg (N - (I + 1))
              case measure => omega
              case rel =>
                refine ⟨I + 1, _, by omega, by go_num, H6.out.1, H6.out.2, fun i b hi hb => ?_⟩
                by_cases hiI : i = I
                · subst hiI
                  rw [HB.out] at hb
                  cases hb
                  simp
                · simp only [if_neg hiI]
                  exact HR.out.2.2 i b (by omega) hb
        · obtain rfl : N = I := by omega
          have hA3 : Als wr A bks (fun i => Mem.marks r i 0 ((bks.getD i (0, 0)).2)) := ⟨HR.out.1.row, fun i b hi => by
            have h1 := HR.out.1.blk i b hi
            have h2 := HR.out.2.2 i b (by have := (List.getElem?_eq_some_iff.1 hi).1; rw [HA.out.1] at this; exact this) hi
            have h3 : bks.getD i (0, 0) = b := by rw [List.getD_eq_getElem?_getD, hi]; rfl
            simp only [h3, ← h2]
            exact h1⟩
          have H3 := hid (And.intro hA3 HR.out.2.1)
          clear HR hA3
          go_wp2_with fail
          have hb4 := below_box wr (.cells [Value.int .i64 1, .int .i64 24, .int .i64 90].toArray 3)
          refine wp_world (fun w' => Below wr.heap.size wr w' ∧ w'.rangeAt wr.heap.size 0 [.int .i64 1, .int .i64 24, .int .i64 90]) ⟨hb4, (Blk.new wr 3 [Value.int .i64 1, .int .i64 24, .int .i64 90]).whole⟩ ?_
          clear hb4
          rintro w4 ⟨hb4, hrg⟩
          obtain ⟨gs, hgs⟩ : ∃ gs, gs = wr.heap.size := ⟨_, rfl⟩
          have hA4 := H3.out.1.grown hb4
          have hk4 : Kept (InBks bks) w w4 := H3.out.2.trans (Kept.of_grown hb4)
          rw [← hgs] at hrg ⊢
          have H4 := hid (And.intro hA4 (And.intro hk4 hrg))
          clear hA4 hk4 hrg hgs hb4 H3
          go_loopg [42] 3 (fun g x wr => ∃ S : Nat, S + g = 3 ∧ x = .int .i64 S ∧ Below w4.heap.size w4 wr)
          case atStart => exact ⟨0, by omega, rfl, Below.refl _ _⟩
          case round =>
            obtain ⟨S, hS, rfl, hb⟩ := hrel
            have HS := hid hb
            clear hb
            by_cases hltS : S < 3
            · obtain ⟨st, hst0, hst, hcs⟩ := step_at (range_grown H4.out.2.2 HS.out) S hltS
              have hq : decide ((S : Int) < 3) = true := decide_eq_true (by omega)
              go_wp2_with fail
              clear hq hcs
              have HS5 := hid (H4.out.1.grown HS.out)
              have HW5 := hid HS.out
              clear HS
              rename World => w5
              go_loopg [8, 48] N (fun g s8 x wr => ∃ (I : Nat) (Ag : Option Addr) (cg : Nat) (vs : List Value), I + g = N ∧ x = .int .i64 I ∧ s8 = .slice Ag I cg ∧ wr.ownsRow w5.heap.size 34 1 (.slice Ag I cg) I vs ∧ (∀ (i : Nat) (v : Value), vs[i]? = some v → GrAt wr r i v) ∧ Below w5.heap.size w5 wr)
              case atStart => exact ⟨0, none, 0, [], by omega, rfl, rfl, World.ownsRow_nil _ _ _ _, fun i v h => by simp at h, Below.refl _ _⟩
              case round =>
                obtain ⟨I, Ag, cg, vs, hI, rfl, rfl, ho, hv, hb⟩ := hrel
                have HR := hid (And.intro ho (And.intro hv hb))
                clear ho hv hb
                by_cases hltI : I < N
                · obtain ⟨b, hb⟩ : ∃ b, bks[I]? = some b := ⟨bks[I]'(by rw [HA.out.1]; exact hltI), by simp⟩
                  have hA6 := HS5.out.grown HR.out.2.2
                  obtain ⟨g0, o0, rfl, hc⟩ := hA6.cell hb
                  have hbs := HA.out.2.1.small b (List.mem_of_getElem? hb)
                  have hbb := hA6.blk I b hb
                  have hgd : bks.getD I (0, 0) = b := by rw [List.getD_eq_getElem?_getD, hb]; rfl
                  simp only [hgd] at hbb
                  obtain ⟨gb, nb⟩ := b
                  have hbs : nb < 500 := hbs
                  have hbb1 : Blk wr gb 5 ((Mem.marks r I 0 nb).map b8) := hbb.1
                  have hvl := HR.out.1.1
                  have hgr := fun w' (h : Below wr.heap.size wr w') => grow_any gb nb r I st (Mem.marks r I 0 nb) w' (Mem.marks_len _ _ _ _) (hbb1.grown h) (by omega) hbs hst0 hst
                  have HG := hid hgr
                  have HVL := hid hvl
                  have h63 : I + 1 ≤ maxLen := by simp only [maxLen]; omega
                  have hby : (I + 1) * 24 ≤ 140737488355328 := by omega
                  clear hgr hb hbb hgd hbb1 hA6 hvl
                  go_wp2_with (first
                    | (go_at_call 52
                       refine (HG.out _ (Below.refl _ _)).mono ?_
                       rintro e w7 ⟨v7, q7, rfl, hb7, ho7, hq7⟩
                       have hg7 := GrAt.of ho7 hbs hq7
                       obtain ⟨A7, c7, rfl, -, -⟩ := rd_own ho7
                       have hb8 := below_box w7 (.cells [Value.slice A7 (nb + q7) c7].toArray 34)
                       have H7 := hid (And.intro (own_grown HR.out.1 (gro hb7 hb8)) (And.intro (gro HR.out.2.2 (gro hb7 hb8)) (And.intro (Rd.of _ (Blk.new w7 34 [Value.slice A7 (nb + q7) c7]).whole) (And.intro (hg7.grown hb8) (gro hb7 hb8)))))
                       have hone : ∀ v ∈ [Value.slice A7 (nb + q7) c7], v.oneCell' = true := (fun v hv => by rw [List.mem_singleton] at hv; subst hv; rfl)
                       have HO7 := hid hone
                       clear hb7 ho7 hg7 hb8 hone)
                    | ((with_reducible refine ap_own (.tmp 51) (.tmp 60) 58 Tryz.underlying58 info_su8 rfl (by decide) H7.out.1 1 1 (news := [Value.slice A7 (nb + q7) c7]) rfl H7.out.2.2.1 HO7.out h63 hby H7.out.2.1.size ?_ ?_ ?_ ?_ ?_); rfl; rfl; rfl; rfl
                       intro v9 w9 ho9 hg9 _ _
                       obtain ⟨A9, c9, rfl, -, -⟩ := rd_own ho9
                       have p9 := But.append H7.out.1 hg9
                       have H9 := hid (And.intro ho9 (And.intro p9 (grownBy_below H7.out.1 H7.out.2.1 H7.out.2.1.size hg9)))
                       clear ho9 hg9 p9))
                  go_roundg (N - (I + 1))
                  case measure => omega
                  case rel =>
                    refine ⟨I + 1, A9, c9, vs ++ [Value.slice A7 (nb + q7) c7], by omega, by go_num, rfl, H9.out.1, fun i v hi => ?_, H9.out.2.2⟩
                    have hl := HVL.out
                    by_cases hil : i < vs.length
                    · rw [List.getElem?_append_left hil] at hi
                      exact ((HR.out.2.1 i v hi).grown H7.out.2.2.2.2).but H9.out.2.1
                    · have hie : i = I := by have := (List.getElem?_eq_some_iff.1 hi).1; simp at this; omega
                      subst hie
                      rw [List.getElem?_append_right (by omega), show i - vs.length = 0 by omega] at hi
                      simp at hi
                      subst hi
                      exact H7.out.2.2.2.1.but H9.out.2.1
                · obtain rfl : N = I := by omega
                  obtain ⟨A6, c6, e6, hr6, -⟩ := rd_own HR.out.1
                  cases e6
                  have hA6 := HS5.out.grown HR.out.2.2
                  have hvl := HR.out.1.1
                  have H6 := hid (And.intro hA6 (And.intro hr6 (And.intro HR.out.2.1 (And.intro hvl (gro HW5.out HR.out.2.2)))))
                  clear hA6 hr6 hvl HR HS5 HW5
                  go_wp2_with fail
                  rename World => w6
                  go_loopg [65] N (fun g x wr => ∃ I : Nat, I + g = N ∧ x = .int .i64 I ∧ Below w6.heap.size w6 wr)
                  case atStart => exact ⟨0, by omega, rfl, Below.refl _ _⟩
                  case round =>
                    obtain ⟨I, hI, rfl, hb⟩ := hrel
                    have HR := hid hb
                    clear hb
                    by_cases hltJ : I < N
                    · obtain ⟨b, hb⟩ : ∃ b, bks[I]? = some b := ⟨bks[I]'(by rw [HA.out.1]; exact hltJ), by simp⟩
                      have hA7 := H6.out.1.grown HR.out
                      obtain ⟨g0, o0, rfl, hc⟩ := hA7.cell hb
                      have hbs := HA.out.2.1.small b (List.mem_of_getElem? hb)
                      have hbb := hA7.blk I b hb
                      have hgd : bks.getD I (0, 0) = b := by rw [List.getD_eq_getElem?_getD, hb]; rfl
                      simp only [hgd] at hbb
                      obtain ⟨gb, nb⟩ := b
                      have hbs : nb < 500 := hbs
                      have hbb1 : Blk wr gb 5 ((Mem.marks r I 0 nb).map b8) := hbb.1
                      have hIv : I < vs.length := by have := H6.out.2.2.2.1; omega
                      obtain ⟨v, hv⟩ : ∃ v, vs[I]? = some v := ⟨vs[I], by simp [hIv]⟩
                      have hgv := (H6.out.2.2.1 I v hv).grown HR.out
                      obtain ⟨A7, N7, c7, rfl, hN7, hr7, -⟩ := hgv
                      obtain ⟨gg, og, rfl, hrr⟩ := H6.out.2.1 (by intro e; rw [e] at hIv; simp at hIv)
                      have hlb := range_lt hrr (by omega)
                      have q1 := Fut.cell hc
                      have q2 := Fut.cell (range_below hrr HR.out hlb I _ hv)
                      have hr8 : Rd wr (some ⟨gb, 0, none⟩) ((Mem.marks r I 0 nb).map b8) := Rd.of _ hbb1.whole
                      have hcf : ∀ s : Fut wr, Calls Tryz.prog 53 #[.slice (some ⟨gb, 0, none⟩) nb nb, .slice A7 N7 c7, .int .i64 r, .int .i64 I] s.v fun e w'' => e = .returned (.bool true) ∧ ∃ s' : Fut wr, w'' = s'.v := fun s => Calls.fut_of (marked_any (some ⟨gb, 0, none⟩) A7 nb nb N7 c7 r I s.v (hr8.grown s.below) (hr7.grown s.below) (by omega) hN7 (by omega))
                      have HC := hid hcf
                      clear hcf hr8 hr7 hrr hlb hb hbb hgd hbb1 hA7 hc hv
                      go_upto_region 25 with fail
                      refine wp_region_fut (by kernel_rfl) (by kernel_rfl) ?_
                      repeat go_big_quiet_step (with_reducible exact HC.out _)
                      refine wpQuiet_nil ?_
                      rintro _ ⟨s, rfl⟩
                      clear q1 q2
                      go_wp2_with fail
                      go_roundg (N - (I + 1))
                      case measure => omega
                      case rel => exact ⟨I + 1, by omega, by go_num, gro HR.out s.below⟩
                    · obtain rfl : N = I := by omega
                      have hb9 := gro H6.out.2.2.2.2 HR.out
                      have HB9 := hid hb9
                      clear hb9
                      go_wp2_with fail
                      go_roundg (3 - (S + 1))
                      case measure => omega
                      case rel => exact ⟨S + 1, by omega, by go_num, HB9.out⟩
            · obtain rfl : S = 3 := by omega
              have hk5 := H4.out.2.1.trans (Kept.of_grown HS.out)
              have hA5 := H4.out.1.grown HS.out
              have H5 := hid (And.intro hA5 hk5)
              clear hA5 hk5
              go_wp2_with fail
              go_roundg (2 - (r + 1))
              case measure => omega
              case rel => exact ⟨r + 1, _, by omega, by go_num, H5.out.1, H5.out.2⟩
    · obtain rfl : r = 2 := by omega
      go_wp2_with fail
      go_ret
      exact ⟨rfl, HR.out.2⟩
end Go.Proofs.YtpnakfeafekneaaGreatDoor

namespace Go.Proofs.YtpnakfeafekneaaGreatDoor
open Go.RowKit
def OverB [Inhabited LoT] (w w' : World) : Prop := Stay (fun t => t ≠ 5) w w' ∧ ∀ (k : Nat) c fz, Lo ≤ k → w.heap[k]? = some (.cells c 5 fz) → w'.heap[k]? = some (.cells c 5 fz)
theorem OverB.tyb [Inhabited LoT] {w w' : World} (h : OverB w w') {A : Option Addr} (ha : TyB w 5 A) : TyB w' 5 A := ⟨fun a e => by
  obtain ⟨c, fz, hh⟩ := ha.1 a e
  exact ⟨c, fz, h.2 _ _ _ (ha.2 a e) hh⟩, ha.2⟩
theorem OverB.rdb [Inhabited LoT] {w w' : World} (h : OverB w w') {A : Option Addr} {cs : List Value} (hr : Rd w A cs) (ha : TyB w 5 A) : Rd w' A cs := fun hn => by
  obtain ⟨g, o, e, hc⟩ := hr hn
  obtain ⟨c, fz, hh⟩ := ha.1 _ e
  refine ⟨g, o, e, fun j v hj => ?_⟩
  rw [← hc j v hj]
  exact World.cell?_of_block (w := w) ((h.2 _ _ _ (ha.2 _ e) hh).trans hh.symm)
theorem OverB.of_kept [Inhabited LoT] {w w' : World} {S : Nat → Prop} (h : Kept S w w') (hS : ∀ k, S k → k < Lo ∧ ∃ c fz, w.heap[k]? = some (.cells c 5 fz)) : OverB w w' := by
  refine ⟨Stay.of_kept h fun k hk t c fz hh => ?_, fun k c fz hlo hh => ?_⟩
  · obtain ⟨-, c', fz', h'⟩ := hS k hk
    rw [h'] at hh
    cases hh
    simp
  · have hlt : k < w.heap.size := by
      rcases Nat.lt_or_ge k w.heap.size with hlt | hge
      · exact hlt
      · rw [Array.getElem?_eq_none hge] at hh; cases hh
    rw [h.block k hlt fun hs => by have := (hS k hs).1; omega]
    exact hh
theorem PairAt.over [Inhabited LoT] {w w' : World} (h : OverB w w') {x : List Value} {p : Pr} (hp : PairAt w x p) : PairAt w' x p := by
  obtain ⟨A1, c1, A2, c2, e, h1, h2, h3, h4, h5, h6⟩ := hp
  exact ⟨A1, c1, A2, c2, e, h.rdb h1 h5, h.rdb h2 h6, h3, h4, h.tyb h5, h.tyb h6⟩
theorem PairsAt.over [Inhabited LoT] {w w' : World} (h : OverB w w') {L : List (List Value)} {m : List Pr} (hp : PairsAt w L m) : PairsAt w' L m := ⟨hp.len, fun i x p h1 h2 => (hp.at_ i x p h1 h2).over h⟩
theorem Bk.over [Inhabited LoT] {w w' : World} (h : OverB w w') {n : Nat} {v : Value} {m : List Pr} (hb : Bk w n v m) : Bk w' n v m := by
  obtain ⟨b, of, A, c, L, e, hb⟩ := hb
  exact ⟨b, of, A, c, L, e, h.1.blk hb.blk (by decide), h.1.rd hb.rd hb.ty (by decide), hb.at_.over h, hb.cap, hb.key, hb.len, hb.ne, h.1.tyd hb.ty (by decide)⟩
theorem HtAt.over [Inhabited LoT] {S : Nat → Prop} {w w' : World} (h : OverB w w') {n : Nat} : ∀ {f t : Nat} {v : Value} {m : List Pr}, HtAt S w n f t v m → HtAt S w' n f t v m
  | 0, _, _, _, hb => Bk.over h hb
  | f + 1, t, v, m, hb => by
    rcases hb with ⟨h1, h2⟩ | ⟨h1, b, A, c, z, val, e, h2, h3, h4, h6, h5⟩
    · exact .inl ⟨h1, h2.over h⟩
    · exact .inr ⟨h1, b, A, c, z, val, e, h.1.blk h2 (by decide), h.1.rd h3 h6.2 (by decide), h4, ⟨h6.1, h.1.tyd h6.2 (by decide)⟩, fun i hi => HtAt.over h (h5 i hi)⟩
theorem MapAt.over [Inhabited LoT] {w w' : World} (h : OverB w w') {n b : Nat} {m : List Pr} (hm : MapAt w n b m) : MapAt w' n b m := by
  obtain ⟨⟨top, h1, h2⟩, h3, h4, h5⟩ := hm
  exact ⟨⟨top, h.1.blk h1 (by decide), h2.imp id (HtAt.over h)⟩, h3, h4, h5⟩
theorem TreeAt.over [Inhabited LoT] {w w' : World} (h : OverB w w') {b n : Nat} {ds : List (List UInt8)} (ht : TreeAt w b n ds) : TreeAt w' b n ds := by
  obtain ⟨A, c, bs, ts, h1, h2, h3, h4, h5⟩ := ht
  exact ⟨A, c, bs, ts, h.1.blk h1 (by decide), h.1.rd h2 h4.2 (by decide), h3, ⟨h4.1.stay (fun k cs hb => h.1.blk hb (by decide)), h.1.tyd h4.2 (by decide)⟩, h5⟩
theorem EntTy.over [Inhabited LoT] {w w' : World} (h : OverB w w') {x : List Value} {p : Ent} (hp : EntTy w x p) : EntTy w' x p := by
  obtain ⟨A1, c1, A2, c2, e, h1, h2, h3, h4, h5, h6⟩ := hp
  exact ⟨A1, c1, A2, c2, e, h.rdb h1 h5, h.rdb h2 h6, h3, h4, h.tyb h5, h.tyb h6⟩
theorem EntsTy.over [Inhabited LoT] {w w' : World} (h : OverB w w') {L : List (List Value)} {es : List Ent} (hp : EntsTy w L es) : EntsTy w' L es := ⟨hp.len, fun i x p h1 h2 => (hp.at_ i x p h1 h2).over h⟩
theorem SnapAt.over [Inhabited LoT] {S : Nat} {w w' : World} {n b : Nat} {es : List Ent} {rs : List Rt} (h : SnapAt S w n b es rs) (hb : OverB w w') : SnapAt S w' n b es rs := by
  obtain ⟨tb, mb, A, c, L, Ap, cp, h1, h2, h3, ⟨h4, h5, h6⟩, ⟨h7, h8, h8'⟩, h9⟩ := h
  exact ⟨tb, mb, A, c, L, Ap, cp, hb.1.blk h1 (by decide), h2.over hb, h3.over hb, ⟨hb.1.rd h4 h6 (by decide), h5.over hb, hb.1.tyd h6 (by decide)⟩, ⟨hb.1.rd h7 h8 (by decide), hb.1.tyd h8 (by decide), h8'⟩, h9⟩
end Go.Proofs.YtpnakfeafekneaaGreatDoor

namespace Go.Proofs.YtpnakfeafekneaaGreatDoor
open Go.RowKit
theorem En.good_ok {es : List Ent} {e : Ent} (h : e ∈ En.good es) : En.check e = 0 := by
  unfold En.good at h
  have := (List.mem_filter.1 h).2
  exact of_decide_eq_true this
theorem En.chk_zero {k : UInt8} {a b : Nat} (h : En.chk k a b = 0) : a ≤ 64 ∧ b ≤ 256 := by
  unfold En.chk at h
  split at h
  · cases h
  · omega
theorem En.good_key {es : List Ent} {e : Ent} (h : e ∈ En.good es) : e.key.length ≤ 64 ∧ e.val.length ≤ 256 := En.chk_zero (En.good_ok h)
theorem En.all_of {es : List Ent} (h : ∀ a ∈ es, En.check a = 0) : En.all es = 0 := by
  have : ∀ (es : List Ent), (∀ a ∈ es, En.check a = 0) → es.foldl (fun e a => En.least e (En.check a)) 0 = 0 := by
    intro es
    induction es with
    | nil => intro _; rfl
    | cons a es ih =>
      intro h
      rw [List.foldl_cons, h a (by simp)]
      exact ih fun b hb => h b (by simp [hb])
  exact this es h
end Go.Proofs.YtpnakfeafekneaaGreatDoor

namespace Go.Proofs.YtpnakfeafekneaaGreatDoor
open Go.RowKit
theorem En.bchk_good {F : Nat} {es : List Ent} (h : ∀ a ∈ es, En.check a = 0) (h1 : 1 ≤ es.length) (h2 : es.length ≤ 64) (hF : F + es.length < 18446744073709551616) : En.bchk F es = 0 := by
  have hb : En.bfirst F es.length = 0 := by unfold En.bfirst; rw [if_neg (by omega), if_neg (by omega)]
  unfold En.bchk
  rw [hb]
  clear hb h1 h2 hF
  induction es with
  | nil => rfl
  | cons a es ih =>
    rw [List.foldl_cons, h a (by simp)]
    exact ih fun b hb => h b (by simp [hb])
theorem Cu.err_zero {bs : List (List Ent)} (hg : ∀ e ∈ bs.flatten, En.check e = 0) (he : ∀ b ∈ bs, 1 ≤ b.length ∧ b.length ≤ 64) (hl : bs.flatten.length < 1048576) : ∀ i, i < bs.length → Bl.err (Cu.firsts bs) bs i = 0 := by
  intro i hi
  have hF : (Cu.firsts bs)[i]'(by rw [Cu.firsts_len]; exact hi) = (bs.take i).flatten.length := by simp [Cu.firsts]
  have hle := flatten_take_le bs i
  have hbi := he bs[i] (List.getElem_mem hi)
  rw [Bl.at_ _ _ i hi (by rw [Cu.firsts_len]; exact hi), hF, En.bchk_good (fun a ha => hg a (List.mem_flatten.2 ⟨_, List.getElem_mem hi, ha⟩)) hbi.1 hbi.2 (by omega)]
  simp
theorem Cu.firsts_lt {bs : List (List Ent)} (hl : bs.flatten.length < 1048576) : ∀ F ∈ Cu.firsts bs, F < 18446744073709551616 := by
  intro F hF
  obtain ⟨i, -, rfl⟩ := List.mem_map.1 hF
  have := flatten_take_le bs i
  omega
namespace Mem
def full (gs : List Ent) (i : Nat) : List UInt8 := (if i % 2 = 0 then (gs.getD (i / 2) ⟨0, [], []⟩).key else (gs.getD (i / 2) ⟨0, [], []⟩).val) ++ behinds
theorem full_key {gs : List Ent} {j : Nat} {e : Ent} (h : gs[j]? = some e) : full gs (2 * j) = e.key ++ behinds := by
  have h2 : (gs.getD j ⟨0, [], []⟩) = e := by rw [List.getD_eq_getElem?_getD, h]; rfl
  unfold full
  rw [if_pos (by omega), show 2 * j / 2 = j by omega, h2]
theorem full_val {gs : List Ent} {j : Nat} {e : Ent} (h : gs[j]? = some e) : full gs (2 * j + 1) = e.val ++ behinds := by
  have h2 : (gs.getD j ⟨0, [], []⟩) = e := by rw [List.getD_eq_getElem?_getD, h]; rfl
  unfold full
  rw [if_neg (by omega), show (2 * j + 1) / 2 = j by omega, h2]
end Mem
structure Rooms (B : Nat) (w : World) (gs : List Ent) (j : Nat) (bks : List (Nat × Nat)) : Prop where
  len : bks.length = 2 * j
  blk : ∀ (i : Nat) (b : Nat × Nat), bks[i]? = some b → Blk w b.1 5 ((Mem.full gs i).map b8) ∧ (Mem.full gs i).length = b.2
  rise : bks.Pairwise fun b c => b.1 < c.1
  low : ∀ b ∈ bks, B ≤ b.1
theorem Rooms.grown {B : Nat} {w w' : World} {gs : List Ent} {j : Nat} {bks : List (Nat × Nat)} (h : Rooms B w gs j bks) (hb : Below w.heap.size w w') : Rooms B w' gs j bks := ⟨h.len, fun i b hi => ⟨(h.blk i b hi).1.grown hb, (h.blk i b hi).2⟩, h.rise, h.low⟩
theorem Rooms.but {x : TypeId} (hx : 5 ≠ x) {B : Nat} {w w' : World} {gs : List Ent} {j : Nat} {bks : List (Nat × Nat)} (h : Rooms B w gs j bks) (hb : But x w w') : Rooms B w' gs j bks := ⟨h.len, fun i b hi => ⟨Stay.blk hb (h.blk i b hi).1 hx, (h.blk i b hi).2⟩, h.rise, h.low⟩
theorem Rooms.lt {B : Nat} {w : World} {gs : List Ent} {j : Nat} {bks : List (Nat × Nat)} (h : Rooms B w gs j bks) : ∀ b ∈ bks, b.1 < w.heap.size := by
  intro b hb
  obtain ⟨i, hi, rfl⟩ := List.getElem_of_mem hb
  exact (h.blk i bks[i] (by simp [hi])).1.lt
theorem Rooms.step {B : Nat} {w w' : World} {gs : List Ent} {j : Nat} {bks : List (Nat × Nat)} {e : Ent} {g1 g2 : Nat} (h : Rooms B w gs j bks) (he : gs[j]? = some e) (hb : Below w.heap.size w w') (h1 : w.heap.size ≤ g1) (h2 : g1 < g2) (hB : B ≤ w.heap.size)
    (hk : Blk w' g1 5 ((e.key ++ Mem.behinds).map b8)) (hv : Blk w' g2 5 ((e.val ++ Mem.behinds).map b8)) : Rooms B w' gs (j + 1) (bks ++ [(g1, e.key.length + 40), (g2, e.val.length + 40)]) := by
  have hl := h.len
  refine ⟨by simp [hl]; omega, fun i b hi => ?_, ?_, ?_⟩
  · by_cases hil : i < bks.length
    · rw [List.getElem?_append_left hil] at hi
      exact (h.grown hb).blk i b hi
    · rw [List.getElem?_append_right (by omega)] at hi
      have hlt := (List.getElem?_eq_some_iff.1 hi).1
      simp at hlt
      rcases (show i = 2 * j ∨ i = 2 * j + 1 by omega) with rfl | rfl
      · rw [hl, Nat.sub_self] at hi
        simp at hi
        subst hi
        rw [Mem.full_key he]
        exact ⟨hk, by simp [Mem.behinds_len]⟩
      · rw [hl, show 2 * j + 1 - 2 * j = 1 by omega] at hi
        simp at hi
        subst hi
        rw [Mem.full_val he]
        exact ⟨hv, by simp [Mem.behinds_len]⟩
  · rw [List.pairwise_append]
    refine ⟨h.rise, by simp [h2], fun b hb c hc => ?_⟩
    have := h.lt b hb
    simp only [List.mem_cons, List.not_mem_nil, or_false] at hc
    rcases hc with rfl | rfl
    · show b.1 < g1; omega
    · show b.1 < g2; omega
  · intro b hb
    rcases List.mem_append.1 hb with hb | hb
    · exact h.low b hb
    · simp only [List.mem_cons, List.not_mem_nil, or_false] at hb
      rcases hb with rfl | rfl
      · show B ≤ g1; omega
      · show B ≤ g2; omega
theorem Rooms.bks {B : Nat} {w : World} {gs : List Ent} {j : Nat} {bks : List (Nat × Nat)} (h : Rooms B w gs j bks) {A : Option Addr} (hA : Tyd w 34 A) (hs : ∀ e ∈ gs, e.key.length ≤ 64 ∧ e.val.length ≤ 256) : Bks A bks := by
  have hp := List.pairwise_iff_getElem.1 h.rise
  refine ⟨fun i k b c hi hk e => ?_, fun a ha b hb e => ?_, fun b hb => ?_⟩
  · obtain ⟨hil, rfl⟩ := List.getElem?_eq_some_iff.1 hi
    obtain ⟨hkl, rfl⟩ := List.getElem?_eq_some_iff.1 hk
    rcases Nat.lt_trichotomy i k with hlt | heq | hgt
    · have := hp i k hil hkl hlt; omega
    · exact heq
    · have := hp k i hkl hil hgt; omega
  · obtain ⟨i, hi, rfl⟩ := List.getElem_of_mem hb
    have h1 := (h.blk i bks[i] (by simp [hi])).1
    obtain ⟨c, fz, h2⟩ := hA a ha
    unfold Blk at h1
    rw [e, h1] at h2
    cases h2
  · obtain ⟨i, hi, rfl⟩ := List.getElem_of_mem hb
    have h1 := (h.blk i bks[i] (by simp [hi])).2
    rw [← h1]
    have hd : (gs.getD (i / 2) ⟨0, [], []⟩).key.length ≤ 64 ∧ (gs.getD (i / 2) ⟨0, [], []⟩).val.length ≤ 256 := by
      rw [List.getD_eq_getElem?_getD]
      cases hq : gs[i / 2]? with
      | none => simp
      | some e => exact hs e (List.mem_of_getElem? hq)
    unfold Mem.full
    rw [List.length_append, Mem.behinds_len]
    split <;> omega
theorem Rooms.als {B : Nat} {w : World} {gs : List Ent} {j : Nat} {bks : List (Nat × Nat)} (h : Rooms B w gs j bks) {A : Option Addr} (hr : Rd w A (bkRow bks)) : Als w A bks (Mem.full gs) := ⟨hr, h.blk⟩
theorem ent_spare {w : World} {g1 g2 : Nat} {kind : UInt8} {key val : List UInt8} (h1 : Blk w g1 5 ((key ++ Mem.behinds).map b8)) (h2 : Blk w g2 5 ((val ++ Mem.behinds).map b8)) : EntTy w [b8 kind, .slice (some ⟨g1, 0, none⟩) key.length (key.length + 40), .slice (some ⟨g2, 0, none⟩) val.length (val.length + 40)] ⟨kind, key, val⟩ :=
  ⟨_, _, _, _, rfl, Rd.of _ (h1.range [] (key.map b8) (Mem.behinds.map b8) (by simp)), Rd.of _ (h2.range [] (val.map b8) (Mem.behinds.map b8) (by simp)), by show key.length ≤ _; omega, by show val.length ≤ _; omega, TyB.zero h1.tyd, TyB.zero h2.tyd⟩
theorem ap_ent {ops : Array Oper} {rest : List Oper} {o : Oper} {a : Act} {Q : Exit → Act → World → Prop} {wr : World} (s x : Operand) {base k : Nat} {v : Value} {X : List Value} (hown : wr.ownsRow base 36 3 v k X) (K : UInt8) (A1 : Option Addr) (m1 c1 : Nat) (A2 : Option Addr) (m2 c2 : Nat)
    (h63 : k + 1 ≤ maxLen) (hbytes : (k + 1) * 56 ≤ 140737488355328) (hbase : base ≤ wr.heap.size)
    (hgd : o.guard = none) (ho : o.op = .call { callee := .builtin .append, args := #[s, x], argTypes := #[22, 22] }) (hs : a.eval s = v) (hx : a.eval x = .slice (some ⟨wr.heap.size, 0, none⟩) 1 1)
    (h : ∀ A' c' w', w'.ownsRow base 36 3 (.slice A' (k + 1) c') (k + 1) (X ++ [b8 K, .slice A1 m1 c1, .slice A2 m2 c2]) → Below base wr w' → (∃ w1, Below wr.heap.size wr w1 ∧ But 36 w1 w') → wpList Tryz.prog ops Q rest (a.put o.dst (.slice A' (k + 1) c')) w') : wpList Tryz.prog ops Q (o :: rest) a (wr.alloc (.cells #[b8 K, .slice A1 m1 c1, .slice A2 m2 c2] 36)) := by
  have hb : Below wr.heap.size wr (wr.alloc (.cells [b8 K, .slice A1 m1 c1, .slice A2 m2 c2].toArray 36)) := below_box wr _
  have ho2 := own_grown hown hb
  refine ap_own s x 22 Tryz.underlying22 info_entry rfl (by decide) ho2 1 1 (news := [b8 K, .slice A1 m1 c1, .slice A2 m2 c2]) rfl (Rd.of _ (Blk.new wr 36 [b8 K, .slice A1 m1 c1, .slice A2 m2 c2]).whole) (fun u hu => ?_) h63 hbytes (Nat.le_trans hbase hb.size) hgd ho hs hx ?_
  · simp only [List.mem_cons, List.not_mem_nil, or_false] at hu
    rcases hu with rfl | rfl | rfl <;> rfl
  · intro v' w' h1 h2 _ _
    obtain ⟨A', c', rfl, -, -⟩ := rd_own h1
    exact h A' c' w' h1 (grownBy_below ho2 (hb.mono hbase) (Nat.le_trans hbase hb.size) h2) ⟨_, hb, But.append ho2 h2⟩
theorem ap_two {ops : Array Oper} {rest : List Oper} {o : Oper} {a : Act} {Q : Exit → Act → World → Prop} {wr : World} (s x : Operand) {base k : Nat} {v : Value} {X : List Value} (hown : wr.ownsRow base 34 1 v k X) (A1 : Option Addr) (m1 c1 : Nat) (A2 : Option Addr) (m2 c2 : Nat)
    (h63 : k + 2 ≤ maxLen) (hbytes : (k + 2) * 24 ≤ 140737488355328) (hbase : base ≤ wr.heap.size)
    (hgd : o.guard = none) (ho : o.op = .call { callee := .builtin .append, args := #[s, x], argTypes := #[58, 58] }) (hs : a.eval s = v) (hx : a.eval x = .slice (some ⟨wr.heap.size, 0, none⟩) 2 2)
    (h : ∀ A' c' w', w'.ownsRow base 34 1 (.slice A' (k + 2) c') (k + 2) (X ++ [.slice A1 m1 c1, .slice A2 m2 c2]) → Below base wr w' → (∃ w1, Below wr.heap.size wr w1 ∧ But 34 w1 w') → wpList Tryz.prog ops Q rest (a.put o.dst (.slice A' (k + 2) c')) w') : wpList Tryz.prog ops Q (o :: rest) a (wr.alloc (.cells #[.slice A1 m1 c1, .slice A2 m2 c2] 34)) := by
  have hb : Below wr.heap.size wr (wr.alloc (.cells [Value.slice A1 m1 c1, .slice A2 m2 c2].toArray 34)) := below_box wr _
  have ho2 := own_grown hown hb
  refine ap_own s x 58 Tryz.underlying58 info_su8 rfl (by decide) ho2 2 2 (news := [Value.slice A1 m1 c1, .slice A2 m2 c2]) rfl (Rd.of _ (Blk.new wr 34 [Value.slice A1 m1 c1, .slice A2 m2 c2]).whole) (fun u hu => ?_) h63 hbytes (Nat.le_trans hbase hb.size) hgd ho hs hx ?_
  · simp only [List.mem_cons, List.not_mem_nil, or_false] at hu
    rcases hu with rfl | rfl <;> rfl
  · intro v' w' h1 h2 _ _
    obtain ⟨A', c', rfl, -, -⟩ := rd_own h1
    exact h A' c' w' h1 (grownBy_below ho2 (hb.mono hbase) (Nat.le_trans hbase hb.size) h2) ⟨_, hb, But.append ho2 h2⟩
end Go.Proofs.YtpnakfeafekneaaGreatDoor

namespace Go.Proofs.YtpnakfeafekneaaGreatDoor
open Go.RowKit
theorem wrap_succ (q : Nat) (h : q < 1048576) : wrap64 ((q : Int) + 1) = ((q + 1 : Nat) : Int) := by unfold wrap64; omega
end Go.Proofs.YtpnakfeafekneaaGreatDoor
