/- Part 41 of this proof: MB, MC, MF, MD, ME, MG. -/
import Derived.Laws.OwnMore
import Derived.Test.YtpnakfeafekneaaGreatDoorG31
import Derived.Test.YtpnakfeafekneaaGreatDoorG33
import Derived.Test.YtpnakfeafekneaaGreatDoorG40
set_option linter.unusedSimpArgs false
set_option linter.unusedVariables false
namespace Go.Proofs.YtpnakfeafekneaaGreatDoor
open Go.RowKit
section
variable {P : Program} {w w' : World}
theorem ap_fits {ops : Array Oper} {rest : List Oper} {o : Oper} {a : Act} {Q : Exit → Act → World → Prop} (s x : Operand) (t : TypeId) {base : Nat} {e : TypeId} {z : Value} {size bytes : Nat}
    (ht : P.underlying t = some (.slice e)) (hinfo : (P.info? e).map (fun i => (i.zero, i.size, i.bytes)) = some (some z, size, bytes)) (hsz : 0 < size)
    {g n cap : Nat} {xs : List Value} (hown : w.ownsRow base e size (.slice (some ⟨g, 0, none⟩) n cap) n xs) {A : Option Addr} (m c : Nat) {news : List Value} (hl : news.length = m * size) (hr : Rd w A news) (h1 : ∀ u ∈ news, u.oneCell' = true) (hroom : n + m ≤ cap)
    (hgd : o.guard = none) (ho : o.op = .call { callee := .builtin .append, args := #[s, x], argTypes := #[t, t] }) (hs : a.eval s = .slice (some ⟨g, 0, none⟩) n cap) (hx : a.eval x = .slice A m c)
    (h : ∀ w', w'.ownsRow base e size (.slice (some ⟨g, 0, none⟩) (n + m) cap) (n + m) (xs ++ news) → w.grownBy w' (some g) → wpList P ops Q rest (a.put o.dst (.slice (some ⟨g, 0, none⟩) (n + m) cap)) w') : wpList P ops Q (o :: rest) a w := by
  refine wpList_plain hgd fun K hK => ?_
  obtain ⟨i, hi, hz, hsize, hby⟩ := info_parts hinfo
  unfold Oper.wp execOp
  rcases Nat.eq_zero_or_pos m with h0 | h0
  · subst h0
    obtain rfl : news = [] := List.eq_nil_of_length_eq_zero (by simpa using hl)
    cases A with
    | none =>
      have hrn := run_append_no (P := P) (ty := o.type) ht hi _ n xs hown none c rfl
      simp only [ho, resolve, invoke, builtin, Sem.run_bind, Sem.run_pure, Result.andThen_ok, List.map_toArray, List.map_cons, List.map_nil, hs, hx, hrn]
      exact hK _ _ (h w (by simpa using hown) (World.grownBy.refl w _))
    | some ad =>
      obtain ⟨w', hrn, h2, h3⟩ := run_append_fits (P := P) w base t o.type e i size ht hi hsize g n cap xs hown ad 0 c [] hl (by simp) (by simp) hroom
      simp only [ho, resolve, invoke, builtin, Sem.run_bind, Sem.run_pure, Result.andThen_ok, List.map_toArray, List.map_cons, List.map_nil, hs, hx, hrn]
      exact hK _ _ (h w' h2 h3)
  · have hn : news ≠ [] := fun e => by
      subst e
      have := Nat.mul_pos h0 hsz
      simp only [List.length_nil] at hl
      omega
    obtain ⟨g', o', rfl, hc⟩ := hr hn
    obtain ⟨w', hrn, h2, h3⟩ := run_append_fits (P := P) w base t o.type e i size ht hi hsize g n cap xs hown ⟨g', o', none⟩ m c news hl (fun j u hj => by rw [Addr.add_mid]; exact hc j u hj) h1 hroom
    simp only [ho, resolve, invoke, builtin, Sem.run_bind, Sem.run_pure, Result.andThen_ok, List.map_toArray, List.map_cons, List.map_nil, hs, hx, hrn]
    exact hK _ _ (h w' h2 h3)
theorem full_blk {base : Nat} {e : TypeId} {g n : Nat} {xs : List Value} (h : w.ownsRow base e 1 (.slice (some ⟨g, 0, none⟩) n n) n xs) : Blk w g e xs := by
  rcases h.2 with ⟨h2, _⟩ | ⟨g', cap', cur, h2, _, hh, _, _, hcs, htake⟩
  · cases h2
  · simp only [Value.slice.injEq, Option.some.injEq, Addr.mk.injEq, and_true, true_and] at h2
    obtain ⟨rfl, rfl⟩ := h2
    unfold Blk
    rw [hh, ← htake, List.take_of_length_le (by rw [Array.length_toList, hcs]; exact Nat.le_refl _), Array.toArray_toList]
end
namespace Mem
def behinds : List UInt8 := (List.range 40).map behind
theorem behinds_len : behinds.length = 40 := by simp [behinds]
end Mem
theorem make_room (k : Nat) (hk : k ≤ 140737488355328) (w : World) : ∃ w', (Instr.makeSlice 34 (.int .i64 0) (.int .i64 k)).run Tryz.prog w = .ok (.slice (some ⟨w.heap.size, 0, none⟩) 0 k) w' ∧ Below w.heap.size w w' ∧ w'.ownsRow w.heap.size 5 1 (.slice (some ⟨w.heap.size, 0, none⟩) 0 k) 0 [] := by
  obtain ⟨i, hi, hz, hsize, hby⟩ := info_parts info_u8
  have := run_make (P := Tryz.prog) w 34 5 i (.int .u8 0) Tryz.underlying34 hi hz .i64 .i64 0 k (by omega) (by omega) (by rw [hby]; omega) (by omega)
  refine ⟨_, this, below_box _ _, by simp, .inr ⟨w.heap.size, k, _, rfl, Nat.le_refl _, heap_alloc_new _ _, Nat.zero_le _, by simp only [maxLen]; omega, ?_, by simp⟩⟩
  rw [size_madeCells, hsize]
  simp
set_option maxHeartbeats 1000000 in
set_option maxRecDepth 100000 in
theorem spare_any (A : Option Addr) (n c : Nat) (l : List UInt8) (w : World) (hn : l.length = n) (h : Rd w A (l.map b8)) (hl : n < 1048576) :
    Calls Tryz.prog 22 #[.slice A n c] w fun e w' => ∃ g, e = .returned (.tuple #[.slice (some ⟨g, 0, none⟩) n (n + 40), .slice (some ⟨g, 0, none⟩) (n + 40) (n + 40)]) ∧ Below w.heap.size w w' ∧ w.heap.size ≤ g ∧ Blk w' g 5 ((l ++ Mem.behinds).map b8) := by
  obtain ⟨w1, hmk, hb1, ho1⟩ := make_room (n + 40) (by omega) w
  have hr1 := h.grown hb1
  have HA := hid (And.intro hn (And.intro hb1 (And.intro ho1 hr1)))
  have hln : (l.map b8).length = n * 1 := by simp [hn]
  have hlo : ∀ u ∈ l.map b8, u.oneCell' = true := one_b8 l
  have hki : ((n + 40 : Nat) : Int) = (n : Int) + 40 := by simp
  rw [hki] at hmk
  clear hn hb1 ho1 hr1 h hki
  go_enter Tryz.func22, Tryz.ntmps22
  go_wp2_with (first
    | ((with_reducible refine ap_fits (.tmp 10) (.tmp 11) 34 Tryz.underlying34 info_u8 (by decide) HA.out.2.2.1 n c hln HA.out.2.2.2 hlo ?_ ?_ ?_ ?_ ?_ ?_); omega; rfl; rfl; rfl; rfl
       intro w2 ho2 hg2
       have H2 := hid (And.intro ho2 hg2)
       clear ho2 hg2))
  go_loopg [4, 5] 40 (fun k s4 i wr => ∃ j : Nat, j + k = 40 ∧ i = .int .i64 j ∧ s4 = .slice (some ⟨w.heap.size, 0, none⟩) (n + j) (n + 40) ∧ wr.ownsRow w.heap.size 5 1 (.slice (some ⟨w.heap.size, 0, none⟩) (n + j) (n + 40)) (n + j) ((l ++ (List.range j).map Mem.behind).map b8) ∧ Below w.heap.size w wr)
  case atStart =>
    refine ⟨0, by omega, rfl, rfl, ?_, ?_⟩
    · have := H2.out.1
      rw [Nat.zero_add, List.nil_append] at this
      simpa using this
    · exact (kept_of_grownBy H2.out.2).step HA.out.2.1 HA.out.2.1.size (fun k hk e => by have e2 := Option.some.inj e; omega)
  case round =>
    obtain ⟨j, hj, rfl, rfl, ho, hb⟩ := hrel
    have HR := hid (And.intro ho hb)
    clear ho hb
    by_cases hlt : j < 40
    · have hj2 : j < 1024 := by omega
      have hroom : n + j + 1 ≤ n + 40 := by omega
      go_wp2_with (first
        | (go_at_call 50
           refine (behind_any j hj2 wr).mono ?_
           rintro e w4 ⟨rfl, hb4⟩
           have ho4 := own_grown HR.out.1 (gro hb4 (below_box w4 (.cells [b8 (Mem.behind j)].toArray 5)))
           have H4 := hid (And.intro ho4 (And.intro (gro hb4 (below_box w4 (.cells [b8 (Mem.behind j)].toArray 5))) (Rd.of _ (Blk.new w4 5 [b8 (Mem.behind j)]).whole)))
           clear hb4 ho4)
        | ((with_reducible refine ap_fits (.tmp 17) (.tmp 20) 34 Tryz.underlying34 info_u8 (by decide) H4.out.1 1 1 (news := [b8 (Mem.behind j)]) rfl H4.out.2.2 ?_ hroom ?_ ?_ ?_ ?_ ?_); (intro v hv; rw [List.mem_singleton] at hv; subst hv; rfl); rfl; rfl; rfl; rfl
           intro w5 ho5 hg5
           have H5 := hid (And.intro ho5 hg5)
           clear ho5 hg5))
      go_roundg (gk - 1)
      case measure => omega
      case rel =>
        refine ⟨j + 1, by omega, by go_num, rfl, ?_, ?_⟩
        · have := H5.out.1
          rw [show (l ++ (List.range j).map Mem.behind).map b8 ++ [b8 (Mem.behind j)] = (l ++ (List.range (j + 1)).map Mem.behind).map b8 by rw [List.range_succ]; simp] at this
          exact this
        · exact (kept_of_grownBy H5.out.2).step (gro HR.out.2 H4.out.2.1) (gro HR.out.2 H4.out.2.1).size (fun k hk e => by have e2 := Option.some.inj e; omega)
    · obtain rfl : j = 40 := by omega
      go_wp2_with fail
      go_ret2
      exact ⟨w.heap.size, rfl, HR.out.2, Nat.le_refl _, full_blk HR.out.1⟩
end Go.Proofs.YtpnakfeafekneaaGreatDoor

namespace Go.Proofs.YtpnakfeafekneaaGreatDoor
open Go.RowKit
theorem byte_mod (z : Int) : Value.int .u8 (z % 256) = b8 (UInt8.ofNat (z % 256).toNat) := by
  show Value.int .u8 _ = .int .u8 (n8 (UInt8.ofNat (z % 256).toNat))
  congr 1
  unfold n8
  rw [UInt8.toNat_ofNat']
  omega
set_option maxHeartbeats 1000000 in
set_option maxRecDepth 100000 in
theorem over_any (g n : Nat) (l : List UInt8) (w : World) (hn : l.length = n) (hb : Blk w g 5 (l.map b8)) (hl : n < 1048576) :
    Calls Tryz.prog 26 #[.slice (some ⟨g, 0, none⟩) n n] w fun e w' => ∃ l' : List UInt8, e = .returned (.tuple #[]) ∧ l'.length = n ∧ Blk w' g 5 (l'.map b8) ∧ Kept (· = g) w w' := by
  have HA := hid (And.intro hn hb)
  clear hn hb
  go_enter Tryz.func26, Tryz.ntmps26
  go_wp2_with fail
  go_loopg [5] n (fun k i wr => ∃ (j : Nat) (l' : List UInt8), j + k = n ∧ i = .int .i64 j ∧ l'.length = n ∧ Blk wr g 5 (l'.map b8) ∧ Kept (· = g) w wr)
  case atStart => exact ⟨0, l, by omega, rfl, HA.out.1, HA.out.2, Kept.refl _ _⟩
  case round =>
    obtain ⟨j, l', hj, rfl, hl', hb, hk⟩ := hrel
    by_cases hlt : j < n
    · have hjl : j < l'.length := by omega
      have hc : wr.cell? ⟨g, j, none⟩ = some (b8 l'[j]) := by rw [hb.cell]; simp [hjl]
      have hf := hb.frozen j
      have HR := hid (And.intro hl' (And.intro hb hk))
      obtain ⟨x, hx⟩ : ∃ x, x = l'[j] := ⟨_, rfl⟩
      rw [← hx] at hc
      clear hl' hb hk hx hjl
      go_wp2_with fail
      go_roundg (gk - 1)
      case measure => omega
      case rel =>
        refine ⟨j + 1, l'.set j (UInt8.ofNat ((n8 x * 3 + (j : Int) + 85) % 256).toNat), by omega, by go_num, by simpa using HR.out.1, ?_, HR.out.2.2.set1 j _⟩
        rw [List.map_set, ← byte_mod]
        exact HR.out.2.1.set_ j _
    · obtain rfl : j = n := by omega
      have HR := hid (And.intro hl' (And.intro hb hk))
      clear hl' hb hk
      go_wp2_with fail
      go_end0
      exact ⟨l', rfl, HR.out⟩
theorem behinds_get (l : List UInt8) (j : Nat) (hj : j < 40) : ((l ++ Mem.behinds).map b8)[l.length + j]? = some (b8 (Mem.behind j)) := by
  rw [List.getElem?_map, List.getElem?_append_right (by omega), show l.length + j - l.length = j by omega]
  simp [Mem.behinds, hj]
set_option maxHeartbeats 1000000 in
set_option maxRecDepth 100000 in
theorem kept_any (g n : Nat) (l : List UInt8) (A : Option Addr) (c : Nat) (w : World) (hn : l.length = n) (hb : Blk w g 5 ((l ++ Mem.behinds).map b8)) (hr : Rd w A (l.map b8)) (hl : n < 1048576) :
    Calls Tryz.prog 25 #[.slice (some ⟨g, 0, none⟩) (n + 40) (n + 40), .slice A n c] w fun e w' => e = .returned (.bool true) ∧ Below w.heap.size w w' := by
  have hp : Rd w (some ⟨g, 0, none⟩) (l.map b8) := Rd.of _ (hb.range [] (l.map b8) (Mem.behinds.map b8) (by simp))
  have hsame := same_any (some ⟨g, 0, none⟩) n (n + 40) l A n c l w hn hn hp hr (by omega) (by omega)
  rw [show (l == l) = true by simp] at hsame
  have HA := hid (And.intro hn (And.intro hb hsame))
  clear hn hb hr hp hsame
  go_enter Tryz.func25, Tryz.ntmps25
  go_wp2_with
    (go_at_call 36
     refine HA.out.2.2.mono ?_
     rintro e w1 ⟨rfl, hb1⟩
     have H1 := hid hb1
     clear hb1)
  go_loopg [5] 40 (fun k i wr => ∃ j : Nat, j + k = 40 ∧ i = .int .i64 j ∧ Below w.heap.size w wr)
  case atStart => exact ⟨0, by omega, rfl, H1.out⟩
  case round =>
    obtain ⟨j, hj, rfl, hb⟩ := hrel
    by_cases hlt : j < 40
    · have hc : wr.cell? ⟨g, n + j, none⟩ = some (b8 (Mem.behind j)) := by rw [(HA.out.2.1.grown hb).cell, ← HA.out.1]; exact behinds_get l j hlt
      have q1 := Fut.cell hc
      have hcf : ∀ s : Fut wr, Calls Tryz.prog 50 #[.int .i64 j] s.v fun e w'' => e = .returned (b8 (Mem.behind j)) ∧ ∃ s' : Fut wr, w'' = s'.v := fun s => Calls.fut_of (behind_any j (by omega) s.v)
      have HR := hid (And.intro hb hcf)
      clear hb hcf hc
      go_upto_region 6 with fail
      refine wp_region_fut (by kernel_rfl) (by kernel_rfl) ?_
      repeat go_big_quiet_step (with_reducible exact HR.out.2 _)
      refine wpQuiet_nil ?_
      rintro _ ⟨s, rfl⟩
      clear q1
      go_wp2_with fail
      go_roundg (gk - 1)
      case measure => omega
      case rel => exact ⟨j + 1, by omega, by go_num, gro HR.out.1 s.below⟩
    · obtain rfl : j = 40 := by omega
      have HR := hid hb
      clear hb
      go_wp2_with fail
      go_ret
      exact ⟨rfl, HR.out⟩
end Go.Proofs.YtpnakfeafekneaaGreatDoor

namespace Go.Proofs.YtpnakfeafekneaaGreatDoor
open Go.RowKit
section
variable {P : Program} {w w' : World}
theorem ap_full {ops : Array Oper} {rest : List Oper} {o : Oper} {a : Act} {Q : Exit → Act → World → Prop} (s x : Operand) (t : TypeId) {e : TypeId} {z : Value} {size bytes : Nat}
    (ht : P.underlying t = some (.slice e)) (hinfo : (P.info? e).map (fun i => (i.zero, i.size, i.bytes)) = some (some z, size, bytes)) (hzs : z.cells.size = size)
    {g n : Nat} {xs : List Value} (hxl : xs.length = n * size) (hxs : w.rangeAt g 0 xs) {A : Option Addr} (m c : Nat) {news : List Value} (hl : news.length = m * size) (hm : 0 < news.length) (hm0 : 0 < m) (hr : Rd w A news)
    (h63 : n + m ≤ maxLen) (hbytes : (n + m) * bytes ≤ 140737488355328)
    (hgd : o.guard = none) (ho : o.op = .call { callee := .builtin .append, args := #[s, x], argTypes := #[t, t] }) (hs : a.eval s = .slice (some ⟨g, 0, none⟩) n n) (hx : a.eval x = .slice A m c)
    (h : ∀ v' w', w'.ownsRow w.heap.size e size v' (n + m) (xs ++ news) → Below w.heap.size w w' → wpList P ops Q rest (a.put o.dst v') w') : wpList P ops Q (o :: rest) a w := by
  refine wpList_plain hgd fun K hK => ?_
  obtain ⟨i, hi, hz, hsize, hby⟩ := info_parts hinfo
  subst hsize
  subst hby
  obtain ⟨g', o', rfl, hc⟩ := hr (List.length_pos_iff.1 hm)
  have hsmall : n + m ≤ 9223372036854775807 := by simp only [maxLen] at h63; omega
  have hrn := run_append_grow (P := P) w t o.type e i z ht hi hz ⟨g, 0, none⟩ n n xs hxl (fun j u hj => by rw [Addr.add_mid]; exact hxs j u hj) ⟨g', o', none⟩ m c news hl (fun j u hj => by rw [Addr.add_mid]; exact hc j u hj) (by omega) (by omega) (growslice_fits (by omega) hbytes)
  have hge := grownCap_ge w (n + m) n e
  have hcm : grownCap w (n + m) n e ≤ maxLen := grownCap_le_maxLen w (n + m) n e h63
  have hlen : (xs ++ news).length = (n + m) * i.size := by rw [List.length_append, hxl, hl, Nat.add_mul]
  unfold Oper.wp execOp
  simp only [ho, resolve, invoke, builtin, Sem.run_bind, Sem.run_pure, Result.andThen_ok, List.map_toArray, List.map_cons, List.map_nil, hs, hx, hrn]
  refine hK _ _ (h _ _ ⟨hlen, .inr ⟨w.heap.size, _, _, rfl, Nat.le_refl _, heap_alloc_new w.drew _, hge, hcm, ?_, ?_⟩⟩ ((Below.refl _ _).drew.alloc (Nat.le_refl _) _))
  · simp only [Array.size_append, List.size_toArray, size_zeroCells, hzs, hxl, hl, ← Nat.add_mul]
    congr 1
    omega
  · simp only [Array.toList_append, List.append_assoc]
    rw [← List.append_assoc, ← hlen]
    exact List.take_left
end
namespace Mem
def marks (r i a k : Nat) : List UInt8 := (List.range k).map fun j => mark r i (a + j)
theorem marks_len (r i a k : Nat) : (marks r i a k).length = k := by simp [marks]
theorem marks_succ (r i a k : Nat) : marks r i a (k + 1) = marks r i a k ++ [mark r i (a + k)] := by simp [marks, List.range_succ]
end Mem
set_option maxHeartbeats 2000000 in
set_option maxRecDepth 100000 in
theorem grow_any (g n r i st : Nat) (l : List UInt8) (w : World) (hn : l.length = n) (hb : Blk w g 5 (l.map b8)) (hi : i < 1024) (hl : n < 500) (hs0 : 0 < st) (hst : st < 100) :
    Calls Tryz.prog 52 #[.slice (some ⟨g, 0, none⟩) n n, .int .i64 r, .int .i64 i, .int .i64 st] w fun e w' => ∃ v q, e = .returned v ∧ Below w.heap.size w w' ∧ w'.ownsRow w.heap.size 5 1 v (n + q) ((l ++ Mem.marks r i n q).map b8) ∧ q < 100 := by
  have hrg : w.rangeAt g 0 (l.map b8) := hb.whole
  have hln : (l.map b8).length = n * 1 := by simp [hn]
  have HA := hid (And.intro hn (And.intro hb hrg))
  have hmk : ∀ (j : Nat), n + j < 1024 → ∀ (w' : World), Calls Tryz.prog 51 #[.int .i64 r, .int .i64 i, .int .i64 ((n : Int) + (j : Int))] w' fun e w'' => e = .returned (b8 (Mem.mark r i (n + j))) ∧ Below w'.heap.size w' w'' := fun j hj w' => by
    have := mark_any r i (n + j) hi hj w'
    rwa [Int.natCast_add] at this
  have HM := hid hmk
  clear hn hb hrg hmk
  by_cases h1 : st = 1
  · subst h1
    go_enter Tryz.func52, Tryz.ntmps52
    go_wp2_with fail
    go_loopg [9, 10] 24 (fun k s9 i10 wr => ∃ j : Nat, j + k = 24 ∧ i10 = .int .i64 j ∧ ((j = 0 ∧ s9 = .slice (some ⟨g, 0, none⟩) n n) ∨ (0 < j ∧ wr.ownsRow w.heap.size 5 1 s9 (n + j) ((l ++ Mem.marks r i n j).map b8))) ∧ Below w.heap.size w wr)
    case atStart => exact ⟨0, by omega, rfl, .inl ⟨rfl, rfl⟩, Below.refl _ _⟩
    case round =>
      obtain ⟨j, hj, rfl, ho, hb⟩ := hrel
      have HR := hid hb
      clear hb
      by_cases hlt : j < 24
      · have hj2 : n + j < 1024 := by omega
        have hm1 : (0 : Nat) < [b8 (Mem.mark r i (n + j))].length := by simp
        have hone : ∀ v ∈ [b8 (Mem.mark r i (n + j))], v.oneCell' = true := fun v hv => by rw [List.mem_singleton] at hv; subst hv; rfl
        have h63 : n + j + 1 ≤ maxLen := by simp only [maxLen]; omega
        have hby : (n + j + 1) * 1 ≤ 140737488355328 := by omega
        have HO := hid hone
        clear hone
        rcases ho with ⟨rfl, rfl⟩ | ⟨hj0, ho⟩
        · go_wp2_with (first
            | (go_at_call 51
               refine (HM.out 0 hj2 wr).mono ?_
               rintro e w4 ⟨rfl, hb4⟩
               have hb5 := gro hb4 (below_box w4 (.cells [b8 (Mem.mark r i (n + 0))].toArray 5))
               have hl5 : (w4.alloc (.cells [b8 (Mem.mark r i (n + 0))].toArray 5)).rangeAt g 0 (l.map b8) := (HA.out.2.1.grown (gro HR.out hb5)).whole
               have H4 := hid (And.intro hl5 (And.intro (gro HR.out hb5) (Rd.of _ (Blk.new w4 5 [b8 (Mem.mark r i (n + 0))]).whole)))
               clear hb4 hb5 hl5)
            | ((with_reducible refine ap_full (.tmp 20) (.tmp 28) 34 Tryz.underlying34 info_u8 rfl hln H4.out.1 1 1 (news := [b8 (Mem.mark r i (n + 0))]) rfl hm1 Nat.one_pos H4.out.2.2 h63 hby ?_ ?_ ?_ ?_ ?_); rfl; rfl; rfl; rfl
               intro v5 w5 ho5 hb5
               have H5 := hid (And.intro ho5 hb5)
               clear ho5 hb5))
          go_roundg (gk - 1)
          case measure => omega
          case rel =>
            refine ⟨1, by omega, by go_num, .inr ⟨by omega, ?_⟩, gro H4.out.2.1 H5.out.2⟩
            have := own_base H5.out.1 fun k hk => Nat.le_trans H4.out.2.1.size (H5.out.1.lt k hk).1
            rw [show l.map b8 ++ [b8 (Mem.mark r i (n + 0))] = (l ++ Mem.marks r i n 1).map b8 by simp [Mem.marks]] at this
            exact this
        · obtain ⟨A9, c9, rfl, -, -⟩ := rd_own ho
          have HW := hid ho
          clear ho
          go_wp2_with (first
            | (go_at_call 51
               refine (HM.out j hj2 wr).mono ?_
               rintro e w4 ⟨rfl, hb4⟩
               have hb5 := gro hb4 (below_box w4 (.cells [b8 (Mem.mark r i (n + j))].toArray 5))
               have H4 := hid (And.intro (own_grown HW.out hb5) (And.intro (gro HR.out hb5) (Rd.of _ (Blk.new w4 5 [b8 (Mem.mark r i (n + j))]).whole)))
               clear hb4 hb5)
            | ((with_reducible refine ap_own (.tmp 20) (.tmp 28) 34 Tryz.underlying34 info_u8 rfl (by decide) H4.out.1 1 1 (news := [b8 (Mem.mark r i (n + j))]) rfl H4.out.2.2 HO.out h63 hby H4.out.2.1.size ?_ ?_ ?_ ?_ ?_); rfl; rfl; rfl; rfl
               intro v5 w5 ho5 hg5 _ _
               have H5 := hid (And.intro ho5 (grownBy_below H4.out.1 H4.out.2.1 H4.out.2.1.size hg5))
               clear ho5 hg5))
          go_roundg (gk - 1)
          case measure => omega
          case rel =>
            refine ⟨j + 1, by omega, by go_num, .inr ⟨by omega, ?_⟩, H5.out.2⟩
            have := H5.out.1
            rw [show (l ++ Mem.marks r i n j).map b8 ++ [b8 (Mem.mark r i (n + j))] = (l ++ Mem.marks r i n (j + 1)).map b8 by rw [Mem.marks_succ]; simp] at this
            exact this
      · obtain rfl : j = 24 := by omega
        rcases ho with ⟨h0, _⟩ | ⟨hj0, ho⟩
        · omega
        · have HW := hid ho
          clear ho
          go_wp2_with fail
          go_ret
          exact ⟨_, 24, rfl, HR.out, HW.out, by omega⟩
  · have h1i : ¬ (st : Int) = 1 := by omega
    have hq : ((st : Int) == 1) = false := by simpa using h1i
    go_enter Tryz.func52, Tryz.ntmps52
    go_wp2_with fail
    clear hq
    go_loopg [11, 12] st (fun k s11 i12 wr => ∃ (j : Nat) (A9 : Option Addr) (c9 : Nat), j + k = st ∧ i12 = .int .i64 j ∧ s11 = .slice A9 j c9 ∧ wr.ownsRow w.heap.size 5 1 (.slice A9 j c9) j ((Mem.marks r i n j).map b8) ∧ Below w.heap.size w wr)
    case atStart => exact ⟨0, none, 0, by omega, rfl, rfl, World.ownsRow_nil _ _ _ _, Below.refl _ _⟩
    case round =>
      obtain ⟨j, A9, c9, hj, rfl, rfl, ho, hb⟩ := hrel
      have HR := hid (And.intro ho hb)
      clear ho hb
      by_cases hlt : j < st
      · have hj2 : n + j < 1024 := by omega
        have hone : ∀ v ∈ [b8 (Mem.mark r i (n + j))], v.oneCell' = true := fun v hv => by rw [List.mem_singleton] at hv; subst hv; rfl
        have h63 : j + 1 ≤ maxLen := by simp only [maxLen]; omega
        have hby : (j + 1) * 1 ≤ 140737488355328 := by omega
        have HO := hid hone
        clear hone
        go_wp2_with (first
          | (go_at_call 51
             refine (HM.out j hj2 wr).mono ?_
             rintro e w4 ⟨rfl, hb4⟩
             have hb5 := gro hb4 (below_box w4 (.cells [b8 (Mem.mark r i (n + j))].toArray 5))
             have H4 := hid (And.intro (own_grown HR.out.1 hb5) (And.intro (gro HR.out.2 hb5) (Rd.of _ (Blk.new w4 5 [b8 (Mem.mark r i (n + j))]).whole)))
             clear hb4 hb5)
          | ((with_reducible refine ap_own (.tmp 36) (.tmp 44) 34 Tryz.underlying34 info_u8 rfl (by decide) H4.out.1 1 1 (news := [b8 (Mem.mark r i (n + j))]) rfl H4.out.2.2 HO.out h63 hby H4.out.2.1.size ?_ ?_ ?_ ?_ ?_); rfl; rfl; rfl; rfl
             intro v5 w5 ho5 hg5 _ _
             obtain ⟨A5, c5, rfl, -, -⟩ := rd_own ho5
             have H5 := hid (And.intro ho5 (grownBy_below H4.out.1 H4.out.2.1 H4.out.2.1.size hg5))
             clear ho5 hg5))
        go_roundg (gk - 1)
        case measure => omega
        case rel =>
          refine ⟨j + 1, A5, c5, by omega, by go_num, rfl, ?_, H5.out.2⟩
          have := H5.out.1
          rw [show (Mem.marks r i n j).map b8 ++ [b8 (Mem.mark r i (n + j))] = (Mem.marks r i n (j + 1)).map b8 by rw [Mem.marks_succ]; simp] at this
          exact this
      · obtain rfl : j = st := by omega
        obtain ⟨A7, c7, e7, hr7, -⟩ := rd_own HR.out.1
        cases e7
        have hml : ((Mem.marks r i n j).map b8).length = j * 1 := by simp [Mem.marks_len]
        have hm1 : 0 < ((Mem.marks r i n j).map b8).length := by omega
        have hrg : wr.rangeAt g 0 (l.map b8) := (HA.out.2.1.grown HR.out.2).whole
        have h63 : n + j ≤ maxLen := by simp only [maxLen]; omega
        have hby : (n + j) * 1 ≤ 140737488355328 := by omega
        go_wp2_with
          ((with_reducible refine ap_full (.tmp 46) (.tmp 47) 34 Tryz.underlying34 info_u8 rfl hln hrg j c9 hml hm1 hs0 hr7 h63 hby ?_ ?_ ?_ ?_ ?_); rfl; rfl; rfl; rfl
           intro v5 w5 ho5 hb5
           have H5 := hid (And.intro ho5 hb5)
           clear ho5 hb5)
        go_ret
        refine ⟨_, j, rfl, gro HR.out.2 H5.out.2, ?_, hst⟩
        have := own_base H5.out.1 fun k hk => Nat.le_trans HR.out.2.size (H5.out.1.lt k hk).1
        rw [List.map_append]
        exact this
end Go.Proofs.YtpnakfeafekneaaGreatDoor

namespace Go.Proofs.YtpnakfeafekneaaGreatDoor
open Go.RowKit
namespace Cu
def c (zs : List Int) (k rem : Nat) : Nat := min (if zs = [] then 1 else (max 1 (min (zs.getD (k % zs.length) 0) 64)).toNat) rem
def go (zs : List Int) : Nat → Nat → List Ent → List (List Ent)
  | 0, _, _ => []
  | f + 1, k, l => if l = [] then [] else l.take (c zs k l.length) :: go zs f (k + 1) (l.drop (c zs k l.length))
def cut (zs : List Int) (l : List Ent) : List (List Ent) := go zs l.length 0 l
theorem c_le (zs : List Int) (k rem : Nat) : c zs k rem ≤ rem := Nat.min_le_right _ _
theorem c_pos (zs : List Int) (k rem : Nat) (h : 0 < rem) : 1 ≤ c zs k rem := by unfold c; split <;> omega
theorem c_64 (zs : List Int) (k rem : Nat) : c zs k rem ≤ 64 := by unfold c; split <;> omega
theorem go_nil (zs : List Int) (f k : Nat) : go zs f k [] = [] := by cases f <;> simp [go]
theorem go_cons (zs : List Int) (f k : Nat) (l : List Ent) (h : l ≠ []) (hf : l.length ≤ f + 1) : go zs (f + 1) k l = l.take (c zs k l.length) :: go zs f (k + 1) (l.drop (c zs k l.length)) := by simp [go, h]
structure Cutting (zs : List Int) (es : List Ent) (k p : Nat) (bs : List (List Ent)) : Prop where
  len : bs.length = k
  flat : bs.flatten = es.take p
  rest : ∃ f, es.length ≤ p + f ∧ cut zs es = bs ++ go zs f k (es.drop p)
  each : ∀ b ∈ bs, 1 ≤ b.length ∧ b.length ≤ 64
theorem Cutting.start (zs : List Int) (es : List Ent) : Cutting zs es 0 0 [] := ⟨rfl, by simp, ⟨es.length, by omega, by simp [cut]⟩, fun b hb => by cases hb⟩
theorem Cutting.step {zs : List Int} {es : List Ent} {k p : Nat} {bs : List (List Ent)} (h : Cutting zs es k p bs) (hp : p < es.length) : Cutting zs es (k + 1) (p + c zs k (es.length - p)) (bs ++ [(es.drop p).take (c zs k (es.length - p))]) := by
  obtain ⟨h1, h2, ⟨f, h3, h4⟩, h5⟩ := h
  have hl : (es.drop p).length = es.length - p := List.length_drop
  have hne : es.drop p ≠ [] := fun e => by rw [e] at hl; simp at hl; omega
  have hc := c_le zs k (es.length - p)
  have hc1 := c_pos zs k (es.length - p) (by omega)
  refine ⟨by simp [h1], ?_, ?_, ?_⟩
  · rw [List.flatten_append, h2, List.take_add]; simp
  · obtain ⟨f', rfl⟩ : ∃ f', f = f' + 1 := ⟨f - 1, by omega⟩
    refine ⟨f', by omega, ?_⟩
    rw [h4, go_cons zs f' k _ hne (by omega), hl, List.drop_drop, List.append_assoc]
    rfl
  · intro b hb
    rcases List.mem_append.1 hb with hb | hb
    · exact h5 b hb
    · rw [List.mem_singleton] at hb
      subst hb
      have := c_64 zs k (es.length - p)
      rw [List.length_take, hl]
      omega
theorem Cutting.done {zs : List Int} {es : List Ent} {k p : Nat} {bs : List (List Ent)} (h : Cutting zs es k p bs) (hp : es.length ≤ p) : bs = cut zs es := by
  obtain ⟨f, -, h4⟩ := h.rest
  rw [h4, List.drop_of_length_le hp, go_nil, List.append_nil]
theorem Cutting.le {zs : List Int} {es : List Ent} {k p : Nat} {bs : List (List Ent)} (h : Cutting zs es k p bs) : k ≤ bs.flatten.length := by
  have h5 := h.each
  rw [← h.len]
  clear h
  induction bs with
  | nil => simp
  | cons b r ih =>
    have := ih fun b hb => h5 b (by simp [hb])
    have := (h5 b (by simp)).1
    simp only [List.length_cons, List.flatten_cons, List.length_append]
    omega
def firsts (bs : List (List Ent)) : List Nat := (List.range bs.length).map fun i => (bs.take i).flatten.length
theorem firsts_len (bs : List (List Ent)) : (firsts bs).length = bs.length := by simp [firsts]
theorem firsts_snoc (bs : List (List Ent)) (b : List Ent) : firsts (bs ++ [b]) = firsts bs ++ [bs.flatten.length] := by
  unfold firsts
  rw [List.length_append, List.length_singleton, List.range_succ, List.map_append]
  congr 1
  · apply List.map_congr_left
    intro i hi
    rw [List.take_append_of_le_length (by have := List.mem_range.1 hi; omega)]
  · simp
end Cu
theorem ents_drop {w : World} {L : List (List Value)} {es : List Ent} (h : EntsAt w L es) (k : Nat) : EntsAt w (L.drop k) (es.drop k) := by
  refine ⟨by rw [List.length_drop, List.length_drop, h.len], fun i x p h1 h2 => ?_⟩
  rw [List.getElem?_drop] at h1 h2
  exact h.at_ _ x p h1 h2
theorem BatsAt.snoc {w : World} {X : List (List Value)} {Fs : List Nat} {bs : List (List Ent)} {y : List Value} {F : Nat} {b : List Ent} (h : BatsAt w X Fs bs) (hy : BatAt w y F b) : BatsAt w (X ++ [y]) (Fs ++ [F]) (bs ++ [b]) := by
  refine ⟨by simp [h.len], by simp [h.lenF], fun i x F' b' h1 h2 h3 => ?_⟩
  have hl := h.len; have hl2 := h.lenF
  by_cases hi : i < bs.length
  · rw [List.getElem?_append_left (by omega)] at h1 h2 h3
    exact h.at_ i x F' b' h1 h2 h3
  · have : i = bs.length := by
      have := (List.getElem?_eq_some_iff.1 h3).1
      simp at this; omega
    subst this
    rw [List.getElem?_append_right (by omega)] at h1 h2 h3
    simp [hl, hl2] at h1 h2 h3
    subst h1 h2 h3
    exact hy
theorem BatsAt.grown {w w' : World} {X : List (List Value)} {Fs : List Nat} {bs : List (List Ent)} (h : BatsAt w X Fs bs) (hb : Below w.heap.size w w') : BatsAt w' X Fs bs := ⟨h.len, h.lenF, fun i x F b h1 h2 h3 => (h.at_ i x F b h1 h2 h3).grown hb⟩
theorem sub_ents {w : World} {g o : Nat} {L : List (List Value)} {es : List Ent} (h : w.rangeAt g o L.flatten) (he : EntsAt w L es) (p c : Nat) (hp : p + c ≤ es.length) : Rd w (some ⟨g, o + p * 3, none⟩) ((L.drop p).take c).flatten ∧ EntsAt w ((L.drop p).take c) ((es.drop p).take c) := by
  refine ⟨?_, ents_take (ents_drop he p) c⟩
  have hl := he.len
  have e : L.flatten = (L.take p).flatten ++ (((L.drop p).take c).flatten ++ ((L.drop p).drop c).flatten) := by
    rw [← List.flatten_append, List.take_append_drop, ← List.flatten_append, List.take_append_drop]
  rw [e] at h
  have h2 := (range_halves h).2
  rw [flatten_len 3 _ (fun x hx => he.three x (List.mem_of_mem_take hx)), List.length_take, Nat.min_eq_left (by omega)] at h2
  exact Rd.of _ (range_halves h2).1
end Go.Proofs.YtpnakfeafekneaaGreatDoor

namespace Go.Proofs.YtpnakfeafekneaaGreatDoor
open Go.RowKit
theorem ap_bat {ops : Array Oper} {rest : List Oper} {o : Oper} {a : Act} {Q : Exit → Act → World → Prop} {wr : World} (s x : Operand) {base k : Nat} {v : Value} {X : List Value} (hown : wr.ownsRow base 47 2 v k X) (F : Int) (A : Option Addr) (m c : Nat)
    (h63 : k + 1 ≤ maxLen) (hbytes : (k + 1) * 32 ≤ 140737488355328) (hbase : base ≤ wr.heap.size)
    (hgd : o.guard = none) (ho : o.op = .call { callee := .builtin .append, args := #[s, x], argTypes := #[44, 44] }) (hs : a.eval s = v) (hx : a.eval x = .slice (some ⟨wr.heap.size, 0, none⟩) 1 1) {M : Nat} (hM : m = M)
    (h : ∀ A' c' w', w'.ownsRow base 47 2 (.slice A' (k + 1) c') (k + 1) (X ++ [.int .u64 F, .slice A M c]) → Below base wr w' → wpList Tryz.prog ops Q rest (a.put o.dst (.slice A' (k + 1) c')) w') : wpList Tryz.prog ops Q (o :: rest) a (wr.alloc (.cells #[.int .u64 F, .slice A m c] 47)) := by
  subst hM
  have hb : Below wr.heap.size wr (wr.alloc (.cells [Value.int .u64 F, .slice A m c].toArray 47)) := below_box wr _
  have ho2 := own_grown hown hb
  refine ap_own s x 44 Tryz.underlying44 info_batch rfl (by decide) ho2 1 1 (news := [Value.int .u64 F, .slice A m c]) rfl (Rd.of _ (Blk.new wr 47 [Value.int .u64 F, .slice A m c]).whole) (fun u hu => ?_) h63 hbytes (Nat.le_trans hbase hb.size) hgd ho hs hx ?_
  · simp only [List.mem_cons, List.not_mem_nil, or_false] at hu
    rcases hu with rfl | rfl <;> rfl
  · intro v' w' h1 h2 _ _
    obtain ⟨A', c', rfl, -, -⟩ := rd_own h1
    exact h A' c' w' h1 (grownBy_below ho2 (hb.mono hbase) (Nat.le_trans hbase hb.size) h2)
theorem cut_round {w : World} {g0 o0 n cl k p m : Nat} {L : List (List Value)} {es : List Ent} {zs : List Int} {X : List (List Value)} {bs : List (List Ent)} (hn : es.length = n) (hrA : w.rangeAt g0 o0 L.flatten) (hE : EntsAt w L es) (hB : BatsAt w X (Cu.firsts bs) bs) (hC : Cu.Cutting zs es k p bs) (hp : p < n) (hm : m = Cu.c zs k (n - p)) :
    BatsAt w (X ++ [[.int .u64 p, .slice (some ⟨g0, o0 + p * 3, none⟩) m (cl - p)]]) (Cu.firsts (bs ++ [(es.drop p).take m])) (bs ++ [(es.drop p).take m]) ∧ Cu.Cutting zs es (k + 1) (p + m) (bs ++ [(es.drop p).take m]) := by
  have hc := Cu.c_le zs k (n - p)
  subst hn
  subst hm
  refine ⟨?_, hC.step hp⟩
  rw [Cu.firsts_snoc]
  refine hB.snoc ?_
  have hsub := sub_ents hrA hE p (Cu.c zs k (es.length - p)) (by omega)
  have hlen : ((es.drop p).take (Cu.c zs k (es.length - p))).length = Cu.c zs k (es.length - p) := by rw [List.length_take, List.length_drop]; omega
  refine ⟨some ⟨g0, o0 + p * 3, none⟩, cl - p, _, ?_, hsub.1, hsub.2⟩
  rw [hlen, hC.flat, List.length_take, Nat.min_eq_left (by omega)]
set_option maxHeartbeats 4000000 in
set_option maxRecDepth 100000 in
theorem cutup_any (A Ac : Option Addr) (n cl q cc : Nat) (L : List (List Value)) (es : List Ent) (zs : List Int) (w : World) (hn : es.length = n) (hq : zs.length = q) (hA : Rd w A L.flatten) (hE : EntsAt w L es) (hZ : Rd w Ac (zs.map fun z => .int .i64 z)) (hnb : n < 1048576) (hcl : n ≤ cl) (hqb : q < 9223372036854775808) :
    Calls Tryz.prog 23 #[.slice A n cl, .slice Ac q cc] w fun e w' => ∃ (A' : Option Addr) (c' : Nat) (X : List (List Value)), e = .returned (.slice A' (Cu.cut zs es).length c') ∧ Below w.heap.size w w' ∧ Rd w' A' X.flatten ∧ BatsAt w' X (Cu.firsts (Cu.cut zs es)) (Cu.cut zs es) ∧ (Cu.cut zs es).flatten = es ∧ (Cu.cut zs es).length ≤ n ∧ ∀ b ∈ Cu.cut zs es, 1 ≤ b.length ∧ b.length ≤ 64 := by
  have HA := hid (And.intro hn (And.intro hq (And.intro hA (And.intro hE hZ))))
  clear hn hq hA hE hZ
  go_enter Tryz.func23, Tryz.ntmps23
  go_wp2_with fail
  go_loopg [5, 6] n (fun g s5 i wr => ∃ (k p : Nat) (Ar : Option Addr) (cr : Nat) (X : List (List Value)) (bs : List (List Ent)), p + g = n ∧ i = .int .i64 p ∧ s5 = .slice Ar k cr ∧ wr.ownsRow w.heap.size 47 2 (.slice Ar k cr) k X.flatten ∧ BatsAt w X (Cu.firsts bs) bs ∧ Cu.Cutting zs es k p bs ∧ Below w.heap.size w wr)
  case atStart => exact ⟨0, 0, none, 0, [], [], by omega, rfl, rfl, World.ownsRow_nil _ _ _ _, ⟨rfl, rfl, fun i x F b h => by simp at h⟩, Cu.Cutting.start zs es, Below.refl _ _⟩
  case round =>
    obtain ⟨k, p, Ar, cr, X, bs, hp, rfl, rfl, ho, hB, hC, hb⟩ := hrel
    have hkp : k ≤ p := by
      have h1 := hC.le
      rw [hC.flat, List.length_take] at h1
      omega
    have HR := hid (And.intro ho (And.intro hB (And.intro hC hb)))
    clear ho hB hC hb
    by_cases hlt : p < n
    · obtain ⟨g0, o0, rfl, hrA⟩ := HA.out.2.2.1 (by
        intro e
        have h1 := flatten_len 3 _ HA.out.2.2.2.1.three
        rw [e, HA.out.2.2.2.1.len, HA.out.1] at h1
        simp at h1; omega)
      rcases Nat.eq_zero_or_pos q with hq0 | hq0
      · have hz0 : zs = [] := List.eq_nil_of_length_eq_zero (by rw [HA.out.2.1]; exact hq0)
        have hqi : ¬ (0 : Int) < (q : Int) := by omega
        have hcv : ((Cu.c zs k (n - p) : Nat) : Int) = min 1 ((n : Int) - p) := by
          unfold Cu.c
          rw [if_pos hz0]
          omega
        have hcr := fun (m : Nat) (hm : m = Cu.c zs k (n - p)) => cut_round (cl := cl) HA.out.1 hrA HA.out.2.2.2.1 HR.out.2.1 HR.out.2.2.1 hlt hm
        have hcl1 := Cu.c_le zs k (n - p)
        have hcl0 := Cu.c_pos zs k (n - p) (by omega)
        obtain ⟨C, hCe⟩ : ∃ C, C = Cu.c zs k (n - p) := ⟨_, rfl⟩
        rw [← hCe] at hcv hcl1 hcr hcl0
        have HC := hid hcr
        have HV := hid hcv
        have h63 : k + 1 ≤ maxLen := by simp only [maxLen]; omega
        have hby : (k + 1) * 32 ≤ 140737488355328 := by omega
        clear hz0 hCe hcr hcv hq0
        go_wp2_with
          ((with_reducible refine ap_bat (M := C) (.tmp 31) (.tmp 41) HR.out.1 _ _ _ _ h63 hby HR.out.2.2.2.size ?_ ?_ ?_ ?_ ?_ ?_); rfl; rfl; rfl; rfl; (have hcv := HV.out; omega)
           intro A9 c9 w9 ho9 hb9
           have H9 := hid (And.intro ho9 hb9)
           clear ho9 hb9)
        all_goals
          go_roundg (gk - C)
          case measure => omega
          case rel =>
            obtain ⟨h1, h2⟩ := HC.out C rfl
            refine ⟨k + 1, p + C, A9, c9, X ++ [[.int .u64 p, .slice (some ⟨g0, o0 + p * 3, none⟩) C (cl - p)]], bs ++ [(es.drop p).take C], by omega, ?_, rfl, ?_, h1, h2, HR.out.2.2.2.trans H9.out.2⟩
            · have hcv := HV.out
              show Value.int .i64 _ = Value.int .i64 _
              congr 1
              omega
            · rw [List.flatten_append]
              exact H9.out.1
      · have hqi : (0 : Int) < (q : Int) := by omega
        obtain ⟨r, hr⟩ : ∃ r, r = k % q := ⟨_, rfl⟩
        have hrq : r < q := by rw [hr]; exact Nat.mod_lt _ hq0
        have hkq : (k : Int) % (q : Int) = (r : Int) := by rw [hr]; simp
        have hrz : r < zs.length := by rw [HA.out.2.1]; exact hrq
        obtain ⟨z, hz⟩ : ∃ z, z = zs.getD r 0 := ⟨_, rfl⟩
        obtain ⟨gc, oc, rfl, hrc⟩ := HA.out.2.2.2.2 (by intro e; have := congrArg List.length e; simp at this; simp [this] at hrz)
        have hc0 : wr.cell? ⟨gc, oc + r, none⟩ = some (.int .i64 z) := by
          have hlb := range_lt hrc (by simp; omega)
          exact range_below hrc HR.out.2.2.2 hlb r _ (by rw [hz, List.getD_eq_getElem?_getD, List.getElem?_map, List.getElem?_eq_getElem hrz]; rfl)
        have hcv : ((Cu.c zs k (n - p) : Nat) : Int) = min (max 1 (min z 64)) ((n : Int) - p) := by
          unfold Cu.c
          rw [if_neg (by intro e; rw [e] at hrz; simp at hrz), HA.out.2.1, ← hr, ← hz]
          omega
        have hcr := fun (m : Nat) (hm : m = Cu.c zs k (n - p)) => cut_round (cl := cl) HA.out.1 hrA HA.out.2.2.2.1 HR.out.2.1 HR.out.2.2.1 hlt hm
        have hcl1 := Cu.c_le zs k (n - p)
        have hcl0 := Cu.c_pos zs k (n - p) (by omega)
        obtain ⟨C, hCe⟩ : ∃ C, C = Cu.c zs k (n - p) := ⟨_, rfl⟩
        rw [← hCe] at hcv hcl1 hcr hcl0
        have HZ := hid (And.intro hr (And.intro hz hCe))
        have HC := hid hcr
        have HV := hid hcv
        have h63 : k + 1 ≤ maxLen := by simp only [maxLen]; omega
        have hby : (k + 1) * 32 ≤ 140737488355328 := by omega
        clear hr hz hrc hrz hCe hcr hcv
        go_wp2_with
          ((with_reducible refine ap_bat (M := C) (.tmp 31) (.tmp 41) HR.out.1 _ _ _ _ h63 hby HR.out.2.2.2.size ?_ ?_ ?_ ?_ ?_ ?_); rfl; rfl; rfl; rfl; (have hcv := HV.out; omega)
           intro A9 c9 w9 ho9 hb9
           have H9 := hid (And.intro ho9 hb9)
           clear ho9 hb9)
        all_goals
          go_roundg (gk - C)
          case measure => omega
          case rel =>
            obtain ⟨h1, h2⟩ := HC.out C rfl
            refine ⟨k + 1, p + C, A9, c9, X ++ [[.int .u64 p, .slice (some ⟨g0, o0 + p * 3, none⟩) C (cl - p)]], bs ++ [(es.drop p).take C], by omega, ?_, rfl, ?_, h1, h2, HR.out.2.2.2.trans H9.out.2⟩
            · have hcv := HV.out
              show Value.int .i64 _ = Value.int .i64 _
              congr 1
              omega
            · rw [List.flatten_append]
              exact H9.out.1
    · obtain rfl : p = n := by omega
      have hd : bs = Cu.cut zs es := HR.out.2.2.1.done (by rw [HA.out.1]; exact Nat.le_refl _)
      have HD := hid hd
      clear hd
      have hfl := HR.out.2.2.1.flat
      have hle := HR.out.2.2.1.le
      have hea := HR.out.2.2.1.each
      rw [List.take_of_length_le (by rw [HA.out.1]; exact Nat.le_refl _)] at hfl
      rw [hfl, HA.out.1] at hle
      obtain ⟨Ao, co, eo, hro, -⟩ := rd_own HR.out.1
      cases eo
      have HL := hid (And.intro hfl (And.intro hle (And.intro hea hro)))
      clear hfl hle hea hro
      go_wp2_with fail
      go_ret
      refine ⟨Ar, cr, X, ?_, HR.out.2.2.2, HL.out.2.2.2, ?_, ?_, ?_, ?_⟩
      · rw [← HD.out, HR.out.2.2.1.len]; rfl
      · rw [← HD.out]; exact HR.out.2.1.grown HR.out.2.2.2
      · rw [← HD.out]; exact HL.out.1
      · rw [← HD.out, HR.out.2.2.1.len]; exact HL.out.2.1
      · rw [← HD.out]; exact HL.out.2.2.1
end Go.Proofs.YtpnakfeafekneaaGreatDoor

namespace Go.Proofs.YtpnakfeafekneaaGreatDoor
open Go.RowKit
namespace Mem
theorem marks_zero (r i n : Nat) : ∀ q, marks r i 0 (n + q) = marks r i 0 n ++ marks r i n q
  | 0 => by simp [marks]
  | q + 1 => by rw [← Nat.add_assoc, marks_succ, marks_zero r i n q, marks_succ, List.append_assoc, Nat.zero_add]
theorem marks_get (r i n j : Nat) (hj : j < n) : ((marks r i 0 n).map b8)[j]? = some (b8 (mark r i j)) := by simp [marks, hj]
end Mem
set_option maxHeartbeats 1000000 in
set_option maxRecDepth 100000 in
theorem marked_any (A1 A2 : Option Addr) (n1 c1 n2 c2 r i : Nat) (w : World) (h1 : Rd w A1 ((Mem.marks r i 0 n1).map b8)) (h2 : Rd w A2 ((Mem.marks r i 0 n2).map b8)) (hn1 : n1 < 1024) (hn2 : n2 < 1024) (hi : i < 1024) :
    Calls Tryz.prog 53 #[.slice A1 n1 c1, .slice A2 n2 c2, .int .i64 r, .int .i64 i] w fun e w' => e = .returned (.bool true) ∧ Below w.heap.size w w' := by
  have HA := hid (And.intro h1 h2)
  have HM := hid (fun (j : Nat) (hj : j < 1024) (w' : World) => mark_any r i j hi hj w')
  clear h1 h2
  go_enter Tryz.func53, Tryz.ntmps53
  go_wp2_with fail
  go_loopg [13] n1 (fun k x wr => ∃ j : Nat, j + k = n1 ∧ x = .int .i64 j ∧ Below w.heap.size w wr)
  case atStart => exact ⟨0, by omega, rfl, Below.refl _ _⟩
  case round =>
    obtain ⟨j, hj, rfl, hb⟩ := hrel
    have HR := hid hb
    clear hb
    by_cases hlt : j < n1
    · obtain ⟨g, o, rfl, hr⟩ := HA.out.1 (by intro e; have := congrArg List.length e; simp [Mem.marks_len] at this; omega)
      have hlb := range_lt hr (by simp [Mem.marks_len]; omega)
      have q1 := Fut.cell (range_below hr HR.out hlb j _ (Mem.marks_get r i n1 j hlt))
      have hcf : ∀ s : Fut wr, Calls Tryz.prog 51 #[.int .i64 r, .int .i64 i, .int .i64 j] s.v fun e w'' => e = .returned (b8 (Mem.mark r i j)) ∧ ∃ s' : Fut wr, w'' = s'.v := fun s => Calls.fut_of (HM.out j (by omega) s.v)
      have HC := hid hcf
      clear hcf hr hlb
      go_upto_region 4 with fail
      refine wp_region_fut (by kernel_rfl) (by kernel_rfl) ?_
      repeat go_big_quiet_step (with_reducible exact HC.out _)
      refine wpQuiet_nil ?_
      rintro _ ⟨s, rfl⟩
      clear q1
      go_wp2_with fail
      go_roundg (gk - 1)
      case measure => omega
      case rel => exact ⟨j + 1, by omega, by go_num, gro HR.out s.below⟩
    · obtain rfl : j = n1 := by omega
      go_wp2_with fail
      rename World => wo
      go_loopg [28] n2 (fun k x wr => ∃ j : Nat, j + k = n2 ∧ x = .int .i64 j ∧ Below w.heap.size w wr)
      case atStart => exact ⟨0, by omega, rfl, HR.out⟩
      case round =>
        clear HR
        obtain ⟨j2, hj2, rfl, hb⟩ := hrel
        have HR := hid hb
        clear hb
        by_cases hlt2 : j2 < n2
        · obtain ⟨g, o, rfl, hr⟩ := HA.out.2 (by intro e; have := congrArg List.length e; simp [Mem.marks_len] at this; omega)
          have hlb := range_lt hr (by simp [Mem.marks_len]; omega)
          have q1 := Fut.cell (range_below hr HR.out hlb j2 _ (Mem.marks_get r i n2 j2 hlt2))
          have hcf : ∀ s : Fut wr, Calls Tryz.prog 51 #[.int .i64 r, .int .i64 i, .int .i64 j2] s.v fun e w'' => e = .returned (b8 (Mem.mark r i j2)) ∧ ∃ s' : Fut wr, w'' = s'.v := fun s => Calls.fut_of (HM.out j2 (by omega) s.v)
          have HC := hid hcf
          clear hcf hr hlb
          go_upto_region 10 with fail
          refine wp_region_fut (by kernel_rfl) (by kernel_rfl) ?_
          repeat go_big_quiet_step (with_reducible exact HC.out _)
          refine wpQuiet_nil ?_
          rintro _ ⟨s, rfl⟩
          clear q1
          go_wp2_with fail
          go_roundg (gk - 1)
          case measure => omega
          case rel => exact ⟨j2 + 1, by omega, by go_num, gro HR.out s.below⟩
        · obtain rfl : j2 = n2 := by omega
          go_wp2_with fail
          go_ret
          exact ⟨rfl, HR.out⟩
set_option maxHeartbeats 1000000 in
set_option maxRecDepth 100000 in
theorem sames_any (A1 A2 : Option Addr) (n c1 c2 : Nat) (L1 L2 : List (List Value)) (es : List Ent) (w : World) (hn : es.length = n) (h1 : Rd w A1 L1.flatten) (h2 : Rd w A2 L2.flatten) (e1 : EntsAt w L1 es) (e2 : EntsAt w L2 es) (hkv : ∀ e ∈ es, e.key.length < 1048576 ∧ e.val.length < 1048576) (hnb : n < 1048576) :
    Calls Tryz.prog 24 #[.slice A1 n c1, .slice A2 n c2] w fun e w' => e = .returned (.bool true) ∧ Below w.heap.size w w' := by
  have HA := hid (And.intro hn (And.intro h1 (And.intro h2 (And.intro e1 (And.intro e2 hkv)))))
  clear hn h1 h2 e1 e2 hkv
  go_enter Tryz.func24, Tryz.ntmps24
  go_wp2_with fail
  go_loopg [5] n (fun k x wr => ∃ j : Nat, j + k = n ∧ x = .int .i64 j ∧ Below w.heap.size w wr)
  case atStart => exact ⟨0, by omega, rfl, Below.refl _ _⟩
  case round =>
    obtain ⟨j, hj, rfl, hb⟩ := hrel
    have HR := hid hb
    clear hb
    by_cases hlt : j < n
    · have hl1 : L1.length = n := by rw [HA.out.2.2.2.1.len]; exact HA.out.1
      have hl2 : L2.length = n := by rw [HA.out.2.2.2.2.1.len]; exact HA.out.1
      have hje : j < es.length := by rw [HA.out.1]; exact hlt
      obtain ⟨g1, o1, rfl, hr1⟩ := HA.out.2.1 (by
        intro e
        have h := flatten_len 3 _ HA.out.2.2.2.1.three
        rw [e, hl1] at h
        simp at h; omega)
      obtain ⟨g2, o2, rfl, hr2⟩ := HA.out.2.2.1 (by
        intro e
        have h := flatten_len 3 _ HA.out.2.2.2.2.1.three
        rw [e, hl2] at h
        simp at h; omega)
      have p1 := range_part hr1 HA.out.2.2.2.1.three j (by omega)
      have p2 := range_part hr2 HA.out.2.2.2.2.1.three j (by omega)
      have t1 := HA.out.2.2.2.1.at_ j (L1[j]'(by omega)) es[j] (by simp) (by simp)
      have t2 := HA.out.2.2.2.2.1.at_ j (L2[j]'(by omega)) es[j] (by simp) (by simp)
      have hx3 : (L1[j]'(by omega)).length = 3 := HA.out.2.2.2.1.three _ (List.getElem_mem _)
      have hy3 : (L2[j]'(by omega)).length = 3 := HA.out.2.2.2.2.1.three _ (List.getElem_mem _)
      obtain ⟨x, hx⟩ : ∃ x, x = L1[j]'(by omega) := ⟨_, rfl⟩
      obtain ⟨y, hy⟩ : ∃ y, y = L2[j]'(by omega) := ⟨_, rfl⟩
      rw [← hx] at p1 t1 hx3
      rw [← hy] at p2 t2 hy3
      have hkv := HA.out.2.2.2.2.2 es[j] (List.getElem_mem hje)
      have hlb1 := range_lt p1 (by omega)
      have hlb2 := range_lt p2 (by omega)
      have q1 := range_below p1 HR.out hlb1
      have q2 := range_below p2 HR.out hlb2
      have hcf : ∀ s : Fut wr, Calls Tryz.prog 49 #[.agg x.toArray, .agg y.toArray] s.v fun e w'' => e = .returned (.bool true) ∧ ∃ s' : Fut wr, w'' = s'.v := fun s => Calls.fut_of (sameentry_any x y es[j] s.v ((t1.grown HR.out).grown s.below) ((t2.grown HR.out).grown s.below) hkv.1 hkv.2)
      have HC := hid (And.intro hcf (And.intro q1 q2))
      clear hcf q1 q2 p1 p2 t1 t2 hx hy hr1 hr2 hlb1 hlb2 hkv hl1 hl2
      go_upto_region 6 with fail
      refine wp_region_fut (by kernel_rfl) (by kernel_rfl) ?_
      repeat (first
        | (go_big_quiet_want; (with_reducible refine quiet_ld 36 (.tmp 19) g1 (o1 + j * 3) _ 3 _ hx3 (range_fut HC.out.2.1) Tryz.underlying36 rfl (by kernel_rfl) ?_ ?_ ?_); rfl; rfl; simp only [Act.put, List.setIfInBounds_toArray, List.set_cons_zero, List.set_cons_succ]; go_big_quiet_on)
        | (go_big_quiet_want; (with_reducible refine quiet_ld 36 (.tmp 23) g2 (o2 + j * 3) _ 3 _ hy3 (range_fut HC.out.2.2) Tryz.underlying36 rfl (by kernel_rfl) ?_ ?_ ?_); rfl; rfl; simp only [Act.put, List.setIfInBounds_toArray, List.set_cons_zero, List.set_cons_succ]; go_big_quiet_on)
        | go_big_quiet_step (with_reducible exact HC.out.1 _))
      refine wpQuiet_nil ?_
      rintro _ ⟨s, rfl⟩
      go_wp2_with fail
      go_roundg (gk - 1)
      case measure => omega
      case rel => exact ⟨j + 1, by omega, by go_num, gro HR.out s.below⟩
    · obtain rfl : j = n := by omega
      go_wp2_with fail
      go_ret
      exact ⟨rfl, HR.out⟩
end Go.Proofs.YtpnakfeafekneaaGreatDoor
