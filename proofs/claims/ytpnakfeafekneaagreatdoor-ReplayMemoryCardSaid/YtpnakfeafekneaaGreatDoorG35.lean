/- Part 35 of this proof: YE, YF. -/
import Derived.Test.YtpnakfeafekneaaGreatDoorG34
set_option linter.unusedSimpArgs false
set_option linter.unusedVariables false
namespace Go.Proofs.YtpnakfeafekneaaGreatDoor
open Go.RowKit
def Hm.putStep (n : Nat) (p : Pr) (r : List Pr × Bool) (q : Pr) : List Pr × Bool :=
  (if Hm.ord n p q ≠ 0 then (if r.2 = false ∧ Hm.ord n p q ≤ 0 then r.1 ++ [p] else r.1) ++ [q] else (if r.2 = false ∧ Hm.ord n p q ≤ 0 then r.1 ++ [p] else r.1), r.2 || decide (Hm.ord n p q ≤ 0))
theorem Hm.putStep_tn {n : Nat} {p q : Pr} {l : List Pr} (h : Hm.ord n p q < 0) : (l ++ [q], true) = Hm.putStep n p (l, true) q := by unfold Hm.putStep; simp [show Hm.ord n p q ≠ 0 by omega]
theorem Hm.putStep_tz {n : Nat} {p q : Pr} {l : List Pr} (h : Hm.ord n p q = 0) : (l, true) = Hm.putStep n p (l, true) q := by unfold Hm.putStep; simp [h]
theorem Hm.putStep_tp {n : Nat} {p q : Pr} {l : List Pr} (h : 0 < Hm.ord n p q) : (l ++ [q], true) = Hm.putStep n p (l, true) q := by unfold Hm.putStep; simp [show Hm.ord n p q ≠ 0 by omega]
theorem Hm.putStep_fn {n : Nat} {p q : Pr} {l : List Pr} (h : Hm.ord n p q < 0) : (l ++ [p] ++ [q], true) = Hm.putStep n p (l, false) q := by unfold Hm.putStep; simp [show Hm.ord n p q ≠ 0 by omega, show Hm.ord n p q ≤ 0 by omega]
theorem Hm.putStep_fz {n : Nat} {p q : Pr} {l : List Pr} (h : Hm.ord n p q = 0) : (l ++ [p], true) = Hm.putStep n p (l, false) q := by unfold Hm.putStep; simp [h]
theorem Hm.putStep_fp {n : Nat} {p q : Pr} {l : List Pr} (h : 0 < Hm.ord n p q) : (l ++ [q], false) = Hm.putStep n p (l, false) q := by unfold Hm.putStep; simp [show Hm.ord n p q ≠ 0 by omega, show ¬ Hm.ord n p q ≤ 0 by omega]
theorem Hm.ord_neg {n : Nat} {p q : Pr} (h : Hm.cmp n p q < 0) : Hm.ord n p q < 0 := (Hm.ord_cmp n p q).1.2 h
theorem Hm.ord_pos {n : Nat} {p q : Pr} (h : Hm.cmp n q p < 0) : 0 < Hm.ord n p q := by
  have h1 := Hm.cmp_neg n p q
  have h2 := (Hm.ord_cmp n p q).1
  have h3 := (Hm.ord_cmp n p q).2
  apply Classical.byContradiction
  intro hh
  by_cases e : Hm.ord n p q = 0
  · have := h3.1 e; omega
  · have := h2.1 (by omega); omega
theorem Hm.put_rest {n : Nat} {p : Pr} : ∀ (m : List Pr) (l : List Pr), (∀ q ∈ m, Hm.cmp n p q < 0) → m.foldl (Hm.putStep n p) (l, true) = (l ++ m, true)
  | [], l, _ => by simp
  | q :: m, l, h => by
    rw [List.foldl_cons, ← Hm.putStep_tn (Hm.ord_neg (h q (by simp))), Hm.put_rest m _ (fun r hr => h r (by simp [hr]))]
    simp
theorem Hm.put_fold {n : Nat} {p : Pr} : ∀ (m : List Pr) (l : List Pr), Hm.Srt n m → (if (m.foldl (Hm.putStep n p) (l, false)).2 then (m.foldl (Hm.putStep n p) (l, false)).1 else (m.foldl (Hm.putStep n p) (l, false)).1 ++ [p]) = l ++ Hm.ins n p m
  | [], l, _ => by simp [Hm.ins]
  | q :: m, l, hs => by
    obtain ⟨hq, hm⟩ := List.pairwise_cons.1 hs
    rw [List.foldl_cons]
    rcases Int.lt_trichotomy (Hm.cmp n q p) 0 with h | h | h
    · rw [← Hm.putStep_fp (Hm.ord_pos h), Hm.put_fold m _ hm]
      unfold Hm.ins
      simp [h, show ¬ 0 < Hm.cmp n q p by omega]
    · have hk := Hm.cmp_key h
      have hr : ∀ r ∈ m, Hm.cmp n p r < 0 := fun r hr => by
        have := hq r hr
        unfold Hm.cmp at this ⊢
        rw [← hk]; exact this
      have hneg := Hm.cmp_neg n q p
      rw [← Hm.putStep_fz ((Hm.ord_cmp n p q).2.2 (by omega)), Hm.put_rest m _ hr]
      have f1 : m.filter (fun r => decide (Hm.cmp n r p < 0)) = [] := List.filter_eq_nil_iff.2 fun r h' => by have := hr r h'; have := Hm.cmp_neg n r p; simp; omega
      have f2 : m.filter (fun r => decide (0 < Hm.cmp n r p)) = m := List.filter_eq_self.2 fun r h' => by have := hr r h'; have := Hm.cmp_neg n r p; simp; omega
      unfold Hm.ins
      simp [h, f1, f2]
    · have hneg := Hm.cmp_neg n q p
      have hr : ∀ r ∈ m, Hm.cmp n p r < 0 := fun r hr => Hm.cmp_trans (show Hm.cmp n p q < 0 by omega) (hq r hr)
      rw [← Hm.putStep_fn (Hm.ord_neg (show Hm.cmp n p q < 0 by omega)), Hm.put_rest m _ hr]
      have f1 : m.filter (fun r => decide (Hm.cmp n r p < 0)) = [] := List.filter_eq_nil_iff.2 fun r h' => by have := hr r h'; have := Hm.cmp_neg n r p; simp; omega
      have f2 : m.filter (fun r => decide (0 < Hm.cmp n r p)) = m := List.filter_eq_self.2 fun r h' => by have := hr r h'; have := Hm.cmp_neg n r p; simp; omega
      unfold Hm.ins
      simp [h, f1, f2, show ¬ Hm.cmp n q p < 0 by omega]
theorem ap_itemK {ops : Array Oper} {rest : List Oper} {o : Oper} {a : Act} {w w0 : World} {Q : Exit → Act → World → Prop} (s x : Operand) {B n k c : Nat} {A : Option Addr} {m : List Pr} (h2 : n ≤ 32) (hown : Itr B n w0 w A k c m) (hB : B ≤ w.heap.size) (y : List Value) (p : Pr) (hy : ItAt w n y p) (hk : k < 1048576)
    (hgd : o.guard = none) (ho : o.op = .call { callee := .builtin .append, args := #[s, x], argTypes := #[120, 120] }) (hs : a.eval s = .slice A k c) (hx : a.eval x = .slice (some ⟨w.heap.size, 0, none⟩) 1 1)
    (h : ∀ A' c' w', Itr B n w0 w' A' (k + 1) c' (m ++ [p]) → (∀ b t cs, Blk (w.alloc (.cells y.toArray 225)) b t cs → (Value.slice A k c).ownBlock ≠ some b → Blk w' b t cs) → Stay PureT (w.alloc (.cells y.toArray 225)) w' → wpList Tryz.prog ops Q rest (a.put o.dst (.slice A' (k + 1) c')) w') : wpList Tryz.prog ops Q (o :: rest) a (w.alloc (.cells y.toArray 225)) := by
  obtain ⟨⟨L, h1, h3⟩, h4, h5⟩ := hown
  have hy34 := hy.len h2
  have hb := below_box w (.cells y.toArray 225)
  refine ap_own s x 120 Tryz.underlying120 info_item rfl (by decide) (own_grown h1 hb) 1 1 (news := y) (by omega) (Rd.of _ (Blk.new w _ y).whole) hy.oc (by unfold maxLen; omega) (by omega) (Nat.le_trans hB hb.size) hgd ho hs hx ?_
  intro v' w' g1 g2 _ _
  obtain ⟨A', c', rfl, _, _⟩ := rd_own g1
  have hpure := (But.append (own_grown h1 hb) g2).pure (by decide)
  refine h A' c' w' ⟨⟨L ++ [y], by rw [List.flatten_append]; simpa using g1, ?_⟩, by simp [h4], grownBy_below (own_grown h1 hb) (h5.trans (hb.mono hB)) (Nat.le_trans hB hb.size) g2⟩ (fun b t cs hbk hne => (kept_of_grownBy g2).blk hbk hne) hpure
  exact ((h3.grown hb).append (ItsAt.one (hy.grown hb))).stay hpure
theorem Itr.far {B n : Nat} {w0 w : World} {A : Option Addr} {k c : Nat} {m : List Pr} (h : Itr B n w0 w A k c m) : (Value.slice A k c).ownBlock ≠ some w.heap.size := by
  obtain ⟨⟨L, h1, h3⟩, h4, h5⟩ := h
  intro e
  have := (h1.lt _ e).2
  omega
set_option maxHeartbeats 4000000 in
set_option maxRecDepth 100000 in
theorem rput_any (n : Nat) (h2 : n ≤ 32) (A : Option Addr) (k c : Nat) (m : List Pr) (B1 : Option Addr) (n1 d1 : Nat) (key : List UInt8) (B2 : Option Addr) (n2 d2 : Nat) (val : List UInt8) (w : World) (hm : ItSl w n A k c m) (hs : Hm.Srt n m) (hn1 : key.length = n1) (hn2 : val.length = n2) (hr1 : Rd w B1 (key.map b8)) (hr2 : Rd w B2 (val.map b8)) (hk : k < 524288) (hl1 : n1 < 1048576) (hl2 : n2 < 1048576) (hsz : ∀ p ∈ m, p.key.length < 1048576) :
    Calls Tryz.prog 103 #[.int .i64 n, .slice A k c, .slice B1 n1 d1, .slice B2 n2 d2] w fun e w' => ∃ A' k' c', e = .returned (.slice A' k' c') ∧ Below w.heap.size w w' ∧ ItSl w' n A' k' c' (Hm.ins n ⟨key, val⟩ m) := by
  obtain ⟨hmk, hkc, L, hA, hL⟩ := hm
  have hitem := item_any n h2 B1 n1 d1 key B2 n2 d2 val w hn1 hn2 hr1 hr2 hl1 hl2
  obtain ⟨p, hpe⟩ : ∃ p : Pr, p = ⟨key, val⟩ := ⟨_, rfl⟩
  have hpk : p.key.length < 1048576 := by rw [hpe]; show key.length < _; omega
  have hfold := Hm.put_fold (n := n) (p := p) m [] hs
  rw [← hpe] at hitem ⊢
  have HA := hid (And.intro hA (And.intro hL (And.intro hitem (And.intro hfold (And.intro hsz hmk)))))
  clear hA hL hitem hfold hsz hn1 hn2 hr1 hr2 hpe hs
  go_enter Tryz.func103, Tryz.ntmps103
  go_upto_region 2 with (first
    | (go_at_call 155
       refine HA.out.2.2.1.mono ?_
       rintro e w1 ⟨xc, rfl, hb1, hx1⟩
       have hx34 := hx1.len h2
       have hxo := hx1.oc
       have H1 := hid (And.intro hb1 hx1)
       clear hb1 hx1)
    | ((with_reducible refine st_new 225 (.tmp 9) (.tmp 18) _ _ xc 34 hx34 ?_ (by kernel_rfl) hxo ?_ ?_ ?_ ?_ ?_); rfl; rfl; rfl; rfl; rfl))
  have hbk := Blk.new w1 225 xc
  have hbx := below_box w1 (.cells xc.toArray 225)
  have hlt1 : w1.heap.size < (w1.alloc (.cells xc.toArray 225)).heap.size := hbk.lt
  obtain ⟨bx, hbxe⟩ : ∃ bx, bx = w1.heap.size := ⟨_, rfl⟩
  rw [← hbxe] at hbk hlt1
  rw [← hbxe]
  refine wp_world (fun w' => Blk w' bx 225 xc ∧ ItAt w' n xc p ∧ bx < w'.heap.size ∧ Below w.heap.size w w') ⟨hbk, H1.out.2.grown hbx, hlt1, gro H1.out.1 hbx⟩ ?_
  clear hbk hbx hlt1 hbxe
  rintro w2 hw2
  have HW := hid hw2
  clear hw2 H1
  go_wp2_with fail
  go_loopg [10, 11, 21] k (fun g s10 s11 i wr => ∃ (j : Nat) (A' : Option Addr) (c' k' : Nat) (l : List Pr) (done : Bool), j + g = k ∧ k' ≤ j + j ∧ i = .int .i64 j ∧ s10 = .slice A' k' c' ∧ s11 = .bool done ∧ (l, done) = (m.take j).foldl (Hm.putStep n p) ([], false) ∧ Itr w2.heap.size n w2 wr A' k' c' l)
  case atStart => exact ⟨0, none, 0, 0, [], false, by omega, Nat.le_refl _, rfl, rfl, rfl, rfl, Itr.start n w2⟩
  case round =>
   obtain ⟨j, A', c', k', l, done, hj, hkj, rfl, rfl, rfl, hfo, hi⟩ := hrel
   have HR := hid hi
   clear hi
   by_cases hlt : j < k
   ·
    have hjm : j < m.length := by omega
    have hdt : m.take (j + 1) = m.take j ++ [m[j]] := List.take_succ_eq_append_getElem hjm
    have hqk := HA.out.2.2.2.2.1 m[j] (List.getElem_mem hjm)
    obtain ⟨g, o, y, rfl, hp, hy34, hyo, hy⟩ := rd_item h2 HA.out.1 HA.out.2.1 j hjm
    obtain ⟨q, hqe⟩ : ∃ q, q = m[j] := ⟨_, rfl⟩
    rw [← hqe] at hy hdt hqk
    have hlb := range_lt hp (by omega)
    have hW2 : Below w2.heap.size w2 (wr.alloc (.cells y.toArray 225)) := gro HR.out.bl (below_box wr _)
    have hW1 : Below w.heap.size w (wr.alloc (.cells y.toArray 225)) := gro HW.out.2.2.2 hW2
    have hp2 := range_below hp (gro HW.out.2.2.2 HR.out.bl) hlb
    have px1 := ((HW.out.1.below HR.out.bl HW.out.2.2.1).grown (below_box wr (.cells y.toArray 225))).whole
    have hby := Blk.new wr 225 y
    have py1 := hby.whole
    have hslx : ∀ z ∈ [xc], z.length = 34 := fun z hz => by rw [List.mem_singleton] at hz; subst hz; exact hx34
    have hsly : ∀ z ∈ [y], z.length = 34 := fun z hz => by rw [List.mem_singleton] at hz; subst hz; exact hy34
    obtain ⟨z, hz⟩ : ∃ z, z = Hm.ord n p q := ⟨_, rfl⟩
    have HX := hid (And.intro hy (And.intro HW.out.2.1 (And.intro hz (And.intro (below_box wr (.cells y.toArray 225)) hby))))
    have HX2 := hid HR.out.far
    have HX3 := hid (And.intro hdt hfo)
    have HY := hid (And.intro hW1 hW2)
    clear hy hdt hfo hz hW1 hW2 hby hp hlb hqe
    have hdone : done = true ∨ done = false := by cases done <;> simp
    rcases hdone with rfl | rfl
    · rcases Int.lt_trichotomy z 0 with hzz | hzz | hzz
      · have hz1 : z ≤ 0 := by omega
        have hz2 : ¬ z = 0 := by omega
        go_wp2_with (first
          | ((with_reducible refine ld_mid 225 (.tmp 23) g (o + j * 34) y 34 _ hy34 hp2 Tryz.underlying225 rfl (by kernel_rfl) ?_ ?_ ?_ ?_); rfl; rfl; rfl)
          | ((with_reducible refine st_new 225 (.tmp 13) (.tmp 24) _ _ y 34 hy34 ?_ (by kernel_rfl) hyo ?_ ?_ ?_ ?_ ?_); rfl; rfl; rfl; rfl; rfl)
          | ((with_reducible refine ld_mid 225 (.tmp 9) bx 0 xc 34 _ hx34 px1 Tryz.underlying225 rfl (by kernel_rfl) ?_ ?_ ?_ ?_); rfl; rfl; rfl)
          | ((with_reducible refine ld_mid 225 (.tmp 13) wr.heap.size 0 y 34 _ hy34 py1 Tryz.underlying225 rfl (by kernel_rfl) ?_ ?_ ?_ ?_); rfl; rfl; rfl)
          | (go_at_call 156
             refine (order_any n h2 xc y p q _ (HX.out.2.1.grown HY.out.2) (HX.out.1.grown HY.out.1) hpk hqk).mono ?_
             rintro e w5 ⟨rfl, hb5⟩
             rw [← HX.out.2.2.1]
             have px5 := range_grown px1 hb5
             have py5 := range_grown py1 hb5
             have hbs5 := (gro HY.out.2 hb5).size
             have H5 := hid (And.intro (HR.out.grown HR.out.bl.size (gro HX.out.2.2.2.1 hb5)) (And.intro (HX.out.2.1.grown (gro HY.out.2 hb5)) (And.intro (HX.out.1.grown (gro HY.out.1 hb5)) (HX.out.2.2.2.2.grown hb5))))
             clear hb5)
          | ((with_reducible refine ld_mid 225 (.tmp 13) wr.heap.size 0 y 34 _ hy34 py5 Tryz.underlying225 rfl (by kernel_rfl) ?_ ?_ ?_ ?_); rfl; rfl; rfl)
          | ((with_reducible refine bs_own 120 225 1 #[(0, .tmp 41)] [y] 34 (by decide) hsly rfl (by decide) (by decide) Tryz.underlying120 (by kernel_rfl) ?_ ?_ ?_ ?_); rfl; rfl; rfl; rw [List.flatten_singleton])
          | ((with_reducible refine ap_itemK (.tmp 40) (.tmp 42) h2 H5.out.1 hbs5 y q H5.out.2.2.1 (by omega) ?_ ?_ ?_ ?_ ?_); rfl; rfl; rfl; rfl
             intro A9 c9 w9 hn1 _ _
             have H9 := hid hn1
             clear hn1))
        go_roundg (gk - 1)
        case measure => omega
        case rel =>
          refine ⟨j + 1, A9, c9, k' + 1, _, true, by omega, by omega, by go_num, rfl, rfl, ?_, H9.out⟩
          rw [HX3.out.1, List.foldl_append, List.foldl_cons, List.foldl_nil, ← HX3.out.2]
          exact Hm.putStep_tn (by rw [← HX.out.2.2.1]; omega)
      · subst hzz
        go_wp2_with (first
          | ((with_reducible refine ld_mid 225 (.tmp 23) g (o + j * 34) y 34 _ hy34 hp2 Tryz.underlying225 rfl (by kernel_rfl) ?_ ?_ ?_ ?_); rfl; rfl; rfl)
          | ((with_reducible refine st_new 225 (.tmp 13) (.tmp 24) _ _ y 34 hy34 ?_ (by kernel_rfl) hyo ?_ ?_ ?_ ?_ ?_); rfl; rfl; rfl; rfl; rfl)
          | ((with_reducible refine ld_mid 225 (.tmp 9) bx 0 xc 34 _ hx34 px1 Tryz.underlying225 rfl (by kernel_rfl) ?_ ?_ ?_ ?_); rfl; rfl; rfl)
          | ((with_reducible refine ld_mid 225 (.tmp 13) wr.heap.size 0 y 34 _ hy34 py1 Tryz.underlying225 rfl (by kernel_rfl) ?_ ?_ ?_ ?_); rfl; rfl; rfl)
          | (go_at_call 156
             refine (order_any n h2 xc y p q _ (HX.out.2.1.grown HY.out.2) (HX.out.1.grown HY.out.1) hpk hqk).mono ?_
             rintro e w5 ⟨rfl, hb5⟩
             rw [← HX.out.2.2.1]
             have px5 := range_grown px1 hb5
             have py5 := range_grown py1 hb5
             have hbs5 := (gro HY.out.2 hb5).size
             have H5 := hid (And.intro (HR.out.grown HR.out.bl.size (gro HX.out.2.2.2.1 hb5)) (And.intro (HX.out.2.1.grown (gro HY.out.2 hb5)) (And.intro (HX.out.1.grown (gro HY.out.1 hb5)) (HX.out.2.2.2.2.grown hb5))))
             clear hb5))
        go_roundg (gk - 1)
        case measure => omega
        case rel =>
          refine ⟨j + 1, A', c', k', _, true, by omega, by omega, by go_num, rfl, rfl, ?_, H5.out.1⟩
          rw [HX3.out.1, List.foldl_append, List.foldl_cons, List.foldl_nil, ← HX3.out.2]
          exact Hm.putStep_tz (by rw [← HX.out.2.2.1])
      · have hz1 : ¬ z ≤ 0 := by omega
        have hz2 : ¬ z = 0 := by omega
        go_wp2_with (first
          | ((with_reducible refine ld_mid 225 (.tmp 23) g (o + j * 34) y 34 _ hy34 hp2 Tryz.underlying225 rfl (by kernel_rfl) ?_ ?_ ?_ ?_); rfl; rfl; rfl)
          | ((with_reducible refine st_new 225 (.tmp 13) (.tmp 24) _ _ y 34 hy34 ?_ (by kernel_rfl) hyo ?_ ?_ ?_ ?_ ?_); rfl; rfl; rfl; rfl; rfl)
          | ((with_reducible refine ld_mid 225 (.tmp 9) bx 0 xc 34 _ hx34 px1 Tryz.underlying225 rfl (by kernel_rfl) ?_ ?_ ?_ ?_); rfl; rfl; rfl)
          | ((with_reducible refine ld_mid 225 (.tmp 13) wr.heap.size 0 y 34 _ hy34 py1 Tryz.underlying225 rfl (by kernel_rfl) ?_ ?_ ?_ ?_); rfl; rfl; rfl)
          | (go_at_call 156
             refine (order_any n h2 xc y p q _ (HX.out.2.1.grown HY.out.2) (HX.out.1.grown HY.out.1) hpk hqk).mono ?_
             rintro e w5 ⟨rfl, hb5⟩
             rw [← HX.out.2.2.1]
             have px5 := range_grown px1 hb5
             have py5 := range_grown py1 hb5
             have hbs5 := (gro HY.out.2 hb5).size
             have H5 := hid (And.intro (HR.out.grown HR.out.bl.size (gro HX.out.2.2.2.1 hb5)) (And.intro (HX.out.2.1.grown (gro HY.out.2 hb5)) (And.intro (HX.out.1.grown (gro HY.out.1 hb5)) (HX.out.2.2.2.2.grown hb5))))
             clear hb5)
          | ((with_reducible refine ld_mid 225 (.tmp 13) wr.heap.size 0 y 34 _ hy34 py5 Tryz.underlying225 rfl (by kernel_rfl) ?_ ?_ ?_ ?_); rfl; rfl; rfl)
          | ((with_reducible refine bs_own 120 225 1 #[(0, .tmp 41)] [y] 34 (by decide) hsly rfl (by decide) (by decide) Tryz.underlying120 (by kernel_rfl) ?_ ?_ ?_ ?_); rfl; rfl; rfl; rw [List.flatten_singleton])
          | ((with_reducible refine ap_itemK (.tmp 40) (.tmp 42) h2 H5.out.1 hbs5 y q H5.out.2.2.1 (by omega) ?_ ?_ ?_ ?_ ?_); rfl; rfl; rfl; rfl
             intro A9 c9 w9 hn1 _ _
             have H9 := hid hn1
             clear hn1))
        go_roundg (gk - 1)
        case measure => omega
        case rel =>
          refine ⟨j + 1, A9, c9, k' + 1, _, true, by omega, by omega, by go_num, rfl, rfl, ?_, H9.out⟩
          rw [HX3.out.1, List.foldl_append, List.foldl_cons, List.foldl_nil, ← HX3.out.2]
          exact Hm.putStep_tp (by rw [← HX.out.2.2.1]; omega)
    · rcases Int.lt_trichotomy z 0 with hzz | hzz | hzz
      · have hz1 : z ≤ 0 := by omega
        have hz2 : ¬ z = 0 := by omega
        go_wp2_with (first
          | ((with_reducible refine ld_mid 225 (.tmp 23) g (o + j * 34) y 34 _ hy34 hp2 Tryz.underlying225 rfl (by kernel_rfl) ?_ ?_ ?_ ?_); rfl; rfl; rfl)
          | ((with_reducible refine st_new 225 (.tmp 13) (.tmp 24) _ _ y 34 hy34 ?_ (by kernel_rfl) hyo ?_ ?_ ?_ ?_ ?_); rfl; rfl; rfl; rfl; rfl)
          | ((with_reducible refine ld_mid 225 (.tmp 9) bx 0 xc 34 _ hx34 px1 Tryz.underlying225 rfl (by kernel_rfl) ?_ ?_ ?_ ?_); rfl; rfl; rfl)
          | ((with_reducible refine ld_mid 225 (.tmp 13) wr.heap.size 0 y 34 _ hy34 py1 Tryz.underlying225 rfl (by kernel_rfl) ?_ ?_ ?_ ?_); rfl; rfl; rfl)
          | (go_at_call 156
             refine (order_any n h2 xc y p q _ (HX.out.2.1.grown HY.out.2) (HX.out.1.grown HY.out.1) hpk hqk).mono ?_
             rintro e w5 ⟨rfl, hb5⟩
             rw [← HX.out.2.2.1]
             have px5 := range_grown px1 hb5
             have py5 := range_grown py1 hb5
             have hbs5 := (gro HY.out.2 hb5).size
             have H5 := hid (And.intro (HR.out.grown HR.out.bl.size (gro HX.out.2.2.2.1 hb5)) (And.intro (HX.out.2.1.grown (gro HY.out.2 hb5)) (And.intro (HX.out.1.grown (gro HY.out.1 hb5)) (HX.out.2.2.2.2.grown hb5))))
             clear hb5)
          | ((with_reducible refine ld_mid 225 (.tmp 9) bx 0 xc 34 _ hx34 px5 Tryz.underlying225 rfl (by kernel_rfl) ?_ ?_ ?_ ?_); rfl; rfl; rfl)
          | ((with_reducible refine bs_own 120 225 1 #[(0, .tmp 35)] [xc] 34 (by decide) hslx rfl (by decide) (by decide) Tryz.underlying120 (by kernel_rfl) ?_ ?_ ?_ ?_); rfl; rfl; rfl; rw [List.flatten_singleton])
          | ((with_reducible refine ap_itemK (.tmp 34) (.tmp 36) h2 H5.out.1 hbs5 xc p H5.out.2.1 (by omega) ?_ ?_ ?_ ?_ ?_); rfl; rfl; rfl; rfl
             intro A8 c8 w8 hn1 hn2 hn3
             have hy8 := hn2 _ _ _ (H5.out.2.2.2.alloc _) HX2.out
             have py8 := hy8.whole
             have hbs8 := hn1.bl.size
             have H8 := hid (And.intro hn1 (And.intro hy8 ((H5.out.2.2.1.grown (below_box w5 (.cells xc.toArray 225))).stay hn3)))
             clear hn1 hn2 hn3 hy8)
          | ((with_reducible refine ld_mid 225 (.tmp 13) wr.heap.size 0 y 34 _ hy34 py8 Tryz.underlying225 rfl (by kernel_rfl) ?_ ?_ ?_ ?_); rfl; rfl; rfl)
          | ((with_reducible refine bs_own 120 225 1 #[(0, .tmp 41)] [y] 34 (by decide) hsly rfl (by decide) (by decide) Tryz.underlying120 (by kernel_rfl) ?_ ?_ ?_ ?_); rfl; rfl; rfl; rw [List.flatten_singleton])
          | ((with_reducible refine ap_itemK (.tmp 40) (.tmp 42) h2 H8.out.1 hbs8 y q H8.out.2.2 (by omega) ?_ ?_ ?_ ?_ ?_); rfl; rfl; rfl; rfl
             intro A9 c9 w9 hn1 _ _
             have H9 := hid hn1
             clear hn1))
        go_roundg (gk - 1)
        case measure => omega
        case rel =>
          refine ⟨j + 1, A9, c9, k' + 1 + 1, _, true, by omega, by omega, by go_num, rfl, rfl, ?_, H9.out⟩
          rw [HX3.out.1, List.foldl_append, List.foldl_cons, List.foldl_nil, ← HX3.out.2]
          exact Hm.putStep_fn (by rw [← HX.out.2.2.1]; omega)
      · subst hzz
        go_wp2_with (first
          | ((with_reducible refine ld_mid 225 (.tmp 23) g (o + j * 34) y 34 _ hy34 hp2 Tryz.underlying225 rfl (by kernel_rfl) ?_ ?_ ?_ ?_); rfl; rfl; rfl)
          | ((with_reducible refine st_new 225 (.tmp 13) (.tmp 24) _ _ y 34 hy34 ?_ (by kernel_rfl) hyo ?_ ?_ ?_ ?_ ?_); rfl; rfl; rfl; rfl; rfl)
          | ((with_reducible refine ld_mid 225 (.tmp 9) bx 0 xc 34 _ hx34 px1 Tryz.underlying225 rfl (by kernel_rfl) ?_ ?_ ?_ ?_); rfl; rfl; rfl)
          | ((with_reducible refine ld_mid 225 (.tmp 13) wr.heap.size 0 y 34 _ hy34 py1 Tryz.underlying225 rfl (by kernel_rfl) ?_ ?_ ?_ ?_); rfl; rfl; rfl)
          | (go_at_call 156
             refine (order_any n h2 xc y p q _ (HX.out.2.1.grown HY.out.2) (HX.out.1.grown HY.out.1) hpk hqk).mono ?_
             rintro e w5 ⟨rfl, hb5⟩
             rw [← HX.out.2.2.1]
             have px5 := range_grown px1 hb5
             have py5 := range_grown py1 hb5
             have hbs5 := (gro HY.out.2 hb5).size
             have H5 := hid (And.intro (HR.out.grown HR.out.bl.size (gro HX.out.2.2.2.1 hb5)) (And.intro (HX.out.2.1.grown (gro HY.out.2 hb5)) (And.intro (HX.out.1.grown (gro HY.out.1 hb5)) (HX.out.2.2.2.2.grown hb5))))
             clear hb5)
          | ((with_reducible refine ld_mid 225 (.tmp 9) bx 0 xc 34 _ hx34 px5 Tryz.underlying225 rfl (by kernel_rfl) ?_ ?_ ?_ ?_); rfl; rfl; rfl)
          | ((with_reducible refine bs_own 120 225 1 #[(0, .tmp 35)] [xc] 34 (by decide) hslx rfl (by decide) (by decide) Tryz.underlying120 (by kernel_rfl) ?_ ?_ ?_ ?_); rfl; rfl; rfl; rw [List.flatten_singleton])
          | ((with_reducible refine ap_itemK (.tmp 34) (.tmp 36) h2 H5.out.1 hbs5 xc p H5.out.2.1 (by omega) ?_ ?_ ?_ ?_ ?_); rfl; rfl; rfl; rfl
             intro A8 c8 w8 hn1 hn2 hn3
             have hy8 := hn2 _ _ _ (H5.out.2.2.2.alloc _) HX2.out
             have py8 := hy8.whole
             have hbs8 := hn1.bl.size
             have H8 := hid (And.intro hn1 (And.intro hy8 ((H5.out.2.2.1.grown (below_box w5 (.cells xc.toArray 225))).stay hn3)))
             clear hn1 hn2 hn3 hy8))
        go_roundg (gk - 1)
        case measure => omega
        case rel =>
          refine ⟨j + 1, A8, c8, k' + 1, _, true, by omega, by omega, by go_num, rfl, rfl, ?_, H8.out.1⟩
          rw [HX3.out.1, List.foldl_append, List.foldl_cons, List.foldl_nil, ← HX3.out.2]
          exact Hm.putStep_fz (by rw [← HX.out.2.2.1])
      · have hz1 : ¬ z ≤ 0 := by omega
        have hz2 : ¬ z = 0 := by omega
        go_wp2_with (first
          | ((with_reducible refine ld_mid 225 (.tmp 23) g (o + j * 34) y 34 _ hy34 hp2 Tryz.underlying225 rfl (by kernel_rfl) ?_ ?_ ?_ ?_); rfl; rfl; rfl)
          | ((with_reducible refine st_new 225 (.tmp 13) (.tmp 24) _ _ y 34 hy34 ?_ (by kernel_rfl) hyo ?_ ?_ ?_ ?_ ?_); rfl; rfl; rfl; rfl; rfl)
          | ((with_reducible refine ld_mid 225 (.tmp 9) bx 0 xc 34 _ hx34 px1 Tryz.underlying225 rfl (by kernel_rfl) ?_ ?_ ?_ ?_); rfl; rfl; rfl)
          | ((with_reducible refine ld_mid 225 (.tmp 13) wr.heap.size 0 y 34 _ hy34 py1 Tryz.underlying225 rfl (by kernel_rfl) ?_ ?_ ?_ ?_); rfl; rfl; rfl)
          | (go_at_call 156
             refine (order_any n h2 xc y p q _ (HX.out.2.1.grown HY.out.2) (HX.out.1.grown HY.out.1) hpk hqk).mono ?_
             rintro e w5 ⟨rfl, hb5⟩
             rw [← HX.out.2.2.1]
             have px5 := range_grown px1 hb5
             have py5 := range_grown py1 hb5
             have hbs5 := (gro HY.out.2 hb5).size
             have H5 := hid (And.intro (HR.out.grown HR.out.bl.size (gro HX.out.2.2.2.1 hb5)) (And.intro (HX.out.2.1.grown (gro HY.out.2 hb5)) (And.intro (HX.out.1.grown (gro HY.out.1 hb5)) (HX.out.2.2.2.2.grown hb5))))
             clear hb5)
          | ((with_reducible refine ld_mid 225 (.tmp 13) wr.heap.size 0 y 34 _ hy34 py5 Tryz.underlying225 rfl (by kernel_rfl) ?_ ?_ ?_ ?_); rfl; rfl; rfl)
          | ((with_reducible refine bs_own 120 225 1 #[(0, .tmp 41)] [y] 34 (by decide) hsly rfl (by decide) (by decide) Tryz.underlying120 (by kernel_rfl) ?_ ?_ ?_ ?_); rfl; rfl; rfl; rw [List.flatten_singleton])
          | ((with_reducible refine ap_itemK (.tmp 40) (.tmp 42) h2 H5.out.1 hbs5 y q H5.out.2.2.1 (by omega) ?_ ?_ ?_ ?_ ?_); rfl; rfl; rfl; rfl
             intro A9 c9 w9 hn1 _ _
             have H9 := hid hn1
             clear hn1))
        go_roundg (gk - 1)
        case measure => omega
        case rel =>
          refine ⟨j + 1, A9, c9, k' + 1, _, false, by omega, by omega, by go_num, rfl, rfl, ?_, H9.out⟩
          rw [HX3.out.1, List.foldl_append, List.foldl_cons, List.foldl_nil, ← HX3.out.2]
          exact Hm.putStep_fp (by rw [← HX.out.2.2.1]; omega)
   · obtain rfl : j = k := by omega
     rw [List.take_of_length_le (by have := HA.out.2.2.2.2.2; omega)] at hfo
     have hfin := HA.out.2.2.2.1
     rw [← hfo] at hfin
     have px1 := (HW.out.1.below HR.out.bl HW.out.2.2.1).whole
     have hbsr := HR.out.bl.size
     have hslx : ∀ z ∈ [xc], z.length = 34 := fun z hz => by rw [List.mem_singleton] at hz; subst hz; exact hx34
     have hxr := HW.out.2.1.grown HR.out.bl
     have HX := hid hxr
     have HF := hid hfin
     clear hfo hfin hxr
     have hdone : done = true ∨ done = false := by cases done <;> simp
     rcases hdone with rfl | rfl
     · go_wp2_with fail
       go_ret
       refine ⟨A', k', c', rfl, gro HW.out.2.2.2 HR.out.bl, ?_⟩
       have h := HF.out
       simp only [if_true, List.nil_append] at h
       rw [← h]; exact HR.out.sl
     · go_wp2_with (first
         | ((with_reducible refine ld_mid 225 (.tmp 9) bx 0 xc 34 _ hx34 px1 Tryz.underlying225 rfl (by kernel_rfl) ?_ ?_ ?_ ?_); rfl; rfl; rfl)
         | ((with_reducible refine bs_own 120 225 1 #[(0, .tmp 48)] [xc] 34 (by decide) hslx rfl (by decide) (by decide) Tryz.underlying120 (by kernel_rfl) ?_ ?_ ?_ ?_); rfl; rfl; rfl; rw [List.flatten_singleton])
         | ((with_reducible refine ap_itemK (.tmp 47) (.tmp 49) h2 HR.out hbsr xc p HX.out (by omega) ?_ ?_ ?_ ?_ ?_); rfl; rfl; rfl; rfl
            intro A8 c8 w8 hn1 _ _
            have H8 := hid hn1
            clear hn1))
       go_ret
       refine ⟨A8, k' + 1, c8, rfl, gro HW.out.2.2.2 H8.out.bl, ?_⟩
       have h := HF.out
       simp only [Bool.false_eq_true, if_false, List.nil_append] at h
       rw [← h]; exact H8.out.sl
end Go.Proofs.YtpnakfeafekneaaGreatDoor

namespace Go.Proofs.YtpnakfeafekneaaGreatDoor
open Go.RowKit
theorem Hm.bmf_pow (P : Nat → Bool) : ∀ k, Hm.bmf P k < 2 ^ k
  | 0 => by simp [Hm.bmf]
  | k + 1 => by
    have h := Hm.bmf_pow P k
    rw [Hm.bmf_succ]
    split
    · unfold Nib.add
      exact Nat.or_lt_two_pow (Nat.lt_of_lt_of_le h (Nat.pow_le_pow_right (by decide) (by omega))) (Nat.pow_lt_pow_right (by decide) (by omega))
    · exact Nat.lt_of_lt_of_le h (Nat.pow_le_pow_right (by decide) (by omega))
theorem Hm.bmf_plus (P : Nat → Bool) (k : Nat) (h : P k = true) : Hm.bmf P (k + 1) = Hm.bmf P k + 2 ^ k := by
  have h1 := Hm.bmf_pow P k
  have h2 := Nat.two_pow_add_eq_or_of_lt h1 1
  rw [Hm.bmf_succ, if_pos h]
  unfold Nib.add
  rw [Nat.mul_one] at h2
  rw [Nat.or_comm, ← h2, Nat.add_comm]
def kidsL (n f t : Nat) (m : List Pr) (i : Nat) : List (List UInt8) := ((List.range i).filter (Hm.has n t m)).map fun j => Hm.node n f (t + 1) (Hm.child n t j m)
theorem kidsL_yes {n f t : Nat} {m : List Pr} {i : Nat} (h : Hm.has n t m i = true) : kidsL n f t m (i + 1) = kidsL n f t m i ++ [Hm.node n f (t + 1) (Hm.child n t i m)] := by
  unfold kidsL; rw [List.range_succ, List.filter_append]; simp [h]
theorem kidsL_no {n f t : Nat} {m : List Pr} {i : Nat} (h : Hm.has n t m i = false) : kidsL n f t m (i + 1) = kidsL n f t m i := by
  unfold kidsL; rw [List.range_succ, List.filter_append]; simp [h]
theorem kidsL_le (n f t : Nat) (m : List Pr) (i : Nat) : (kidsL n f t m i).length ≤ i := by
  unfold kidsL; rw [List.length_map]; exact Nat.le_trans (List.length_filter_le _ _) (by simp)
theorem Hm.node_len (n : Nat) (h2 : n ≤ 32) (f t : Nat) (m : List Pr) : (Hm.node n f t m).length = 32 := by
  cases f with
  | zero => exact Dg.sum_length n _ h2
  | succ f => unfold Hm.node; split <;> exact Dg.sum_length n _ h2
def Hm.Pre (n t : Nat) (m : List Pr) : Prop := ∀ p ∈ m, ∀ q ∈ m, ∀ i, i < t → Hm.dig n i p = Hm.dig n i q
theorem Hm.Pre.child {n t : Nat} {m : List Pr} (h : Hm.Pre n t m) (i : Nat) : Hm.Pre n (t + 1) (Hm.child n t i m) := by
  intro p hp q hq j hj
  obtain ⟨h1, h2⟩ := Hm.mem_child.1 hp
  obtain ⟨h3, h4⟩ := Hm.mem_child.1 hq
  by_cases e : j = t
  · subst e; rw [h2, h4]
  · exact h p h1 q h3 j (by omega)
theorem Hm.Pre.single {n t : Nat} (h2 : n ≤ 32) {m : List Pr} (h : Hm.Pre n t m) (ht : t = 2 * n) : Hm.single n m = true := by
  rw [Hm.single_iff]
  intro p hp q hq
  exact form_digits h2 (key_len n h2 _) (key_len n h2 _) (Dg.form_sum n _ h2) (Dg.form_sum n _ h2) (fun i hi => h p hp q hq i (by omega))
def NodeOk (n f : Nat) : Prop := ∀ (t : Nat) (A : Option Addr) (k c : Nat) (m : List Pr) (w : World), f + t = 2 * n → ItSl w n A k c m → Hm.Srt n m → Hm.Pre n t m → k < 524288 → prSize m < 274877906944 → (∀ p ∈ m, p.key.length < 1048576 ∧ p.val.length < 1048576) →
    Calls Tryz.prog 102 #[.int .i64 n, .slice A k c, .int .i64 t] w fun e w' => e = .returned (dg (Hm.node n f t m)) ∧ Below w.heap.size w w'
theorem prSize_child (n t i : Nat) : ∀ (m : List Pr), prSize (Hm.child n t i m) ≤ prSize m
  | [] => Nat.le_refl _
  | p :: m => by
    have := prSize_child n t i m
    unfold prSize Hm.child at this ⊢
    rw [List.filter_cons]
    split
    · simp only [List.flatMap_cons, List.length_append]; omega
    · simp only [List.flatMap_cons, List.length_append]; omega
structure Stp (n f t : Nat) (m : List Pr) (w : World) (ib i : Nat) (A : Option Addr) (k c : Nat) (wr : World) : Prop where
  sb : Blk wr (w.heap.size + 1) 151 [.int .u16 (Hm.bmf (Hm.has n t m) ib), .slice A k c]
  ow : wr.ownsRow (w.heap.size + 1 + 1) 40 32 (.slice A k c) k (dgs (kidsL n f t m i)).flatten
  kl : (kidsL n f t m i).length = k
  rt : Blk wr w.heap.size 151 [.int .u16 0, .slice none 0 0]
  bl : Below w.heap.size w wr
  sz : w.heap.size + 1 + 1 ≤ wr.heap.size
theorem Stp.grown {n f t : Nat} {m : List Pr} {w : World} {ib i : Nat} {A : Option Addr} {k c : Nat} {wr w' : World} (h : Stp n f t m w ib i A k c wr) (hb : Below wr.heap.size wr w') : Stp n f t m w ib i A k c w' :=
  ⟨h.sb.grown hb, own_grown h.ow hb, h.kl, h.rt.grown hb, gro h.bl hb, Nat.le_trans h.sz hb.size⟩
theorem Stp.no {n f t : Nat} {m : List Pr} {w : World} {i : Nat} {A : Option Addr} {k c : Nat} {wr : World} (h : Stp n f t m w i i A k c wr) (hn : Hm.has n t m i = false) : Stp n f t m w (i + 1) (i + 1) A k c wr :=
  ⟨by rw [Hm.bmf_succ, hn]; exact h.sb, by rw [kidsL_no hn]; exact h.ow, by rw [kidsL_no hn]; exact h.kl, h.rt, h.bl, h.sz⟩
theorem Stp.start (n f t : Nat) (m : List Pr) (w : World) : Stp n f t m w 0 0 none 0 0 ((w.alloc (.cells #[.int .u16 0, .slice none 0 0] 151)).alloc (.cells #[.int .u16 0, .slice none 0 0] 151)) := by
  have b1 := (Blk.new w 151 [.int .u16 0, .slice none 0 0]).alloc (.cells #[.int .u16 0, .slice none 0 0] 151)
  have b2 := Blk.new (w.alloc (.cells #[.int .u16 0, .slice none 0 0] 151)) 151 [.int .u16 0, .slice none 0 0]
  rw [show (w.alloc (.cells #[.int .u16 0, .slice none 0 0] 151)).heap.size = w.heap.size + 1 from by simp] at b2
  exact ⟨b2, World.ownsRow_nil _ _ _ _, rfl, b1, gro (below_box w _) (below_box _ _), by simp⟩
theorem Stp.bit {n f t : Nat} {m : List Pr} {w : World} {i : Nat} {A : Option Addr} {k c : Nat} {wr : World} (h : Stp n f t m w i i A k c wr) {q2 : Nat} (hq : q2 = Hm.bmf (Hm.has n t m) (i + 1)) : Stp n f t m w (i + 1) i A k c (wr.setCell ⟨w.heap.size + 1, 0, none⟩ (.int .u16 q2)) := by
  have hne := own_ne h.ow h.sb (by decide)
  refine ⟨by rw [← hq]; exact h.sb.set_ 0 _, own_kept (S := (· = w.heap.size + 1)) h.ow ((Kept.refl _ _).set1 0 _) (fun k hk e => hne (by rw [hk, e])), h.kl, h.rt.far (by show w.heap.size ≠ w.heap.size + 1; omega) _, h.bl.setCell (by show w.heap.size ≤ w.heap.size + 1; omega) _, by rw [show (wr.setCell ⟨w.heap.size + 1, 0, none⟩ (.int .u16 q2)).heap.size = wr.heap.size from by simp]; exact h.sz⟩
theorem Stp.yes {n f t : Nat} {m : List Pr} {w : World} {i : Nat} {A : Option Addr} {k c : Nat} {wd w8 w9 : World} (h : Stp n f t m w (i + 1) i A k c wd) (hhas : Hm.has n t m i = true) (h8 : Below wd.heap.size wd w8) {D : List UInt8} (hD : D = Hm.node n f (t + 1) (Hm.child n t i m)) {A9 : Option Addr} {c9 : Nat}
    (hn1 : w9.ownsRow (w.heap.size + 1 + 1) 40 32 (.slice A9 (k + 1) c9) (k + 1) ((dgs (kidsL n f t m i)).flatten ++ D.map b8)) (hn2 : w8.grownBy w9 (Value.slice A k c).ownBlock) :
    (w9.cell? ⟨w.heap.size + 1, 1, none⟩ = some (.slice A k c) ∧ w9.frozen? ⟨w.heap.size + 1, 1, none⟩ = false) ∧ Stp n f t m w (i + 1) (i + 1) A9 (k + 1) c9 (w9.setCell ⟨w.heap.size + 1, 1, none⟩ (.slice A9 (k + 1) c9)) := by
  have g := h.grown h8
  have hbut := But.append g.ow hn2
  have hsb := Stay.blk hbut g.sb (by decide)
  have hrt := Stay.blk hbut g.rt (by decide)
  have hne := own_ne hn1 hsb (by decide)
  have hbl : Below w.heap.size w w9 := (kept_of_grownBy hn2).step g.bl g.bl.size (fun k hk e => by have := (g.ow.lt k e).1; omega)
  refine ⟨⟨by rw [hsb.cell]; rfl, hsb.frozen 1⟩, hsb.set_ 1 _, ?_, ?_, hrt.far (by show w.heap.size ≠ w.heap.size + 1; omega) _, hbl.setCell (by show w.heap.size ≤ w.heap.size + 1; omega) _, ?_⟩
  · have := own_kept (S := (· = w.heap.size + 1)) hn1 ((Kept.refl _ _).set1 1 (.slice A9 (k + 1) c9)) (fun k hk e => hne (by rw [hk, e]))
    rw [kidsL_yes hhas, ← hD]
    simpa [dgs] using this
  · rw [kidsL_yes hhas, List.length_append, h.kl]; rfl
  · rw [show (w9.setCell ⟨w.heap.size + 1, 1, none⟩ (.slice A9 (k + 1) c9)).heap.size = w9.heap.size from by simp]; exact Nat.le_trans g.sz hn2.size
theorem ItSl.setStep {n k c : Nat} {A : Option Addr} {m : List Pr} {w : World} (h : ItSl w n A k c m) {g : Nat} {cs : List Value} (hb : Blk w g 151 cs) (hne : ∀ a, A = some a → a.block ≠ g) {i : Nat} {u : Value} : ItSl (w.setCell ⟨g, i, none⟩ u) n A k c m := by
  obtain ⟨h1, h2, L, h3, h4⟩ := h
  exact ⟨h1, h2, L, h3.kept ((Kept.refl (· = g) w).set1 i u) (fun a e _ => hne a e), h4.stay (stay_set hb (by decide) i u)⟩
@[go_sem] def ldYes : Op := .load 105 (.tmp 27)
attribute [-go_sem] Instr.build Instr.buildSlice in
set_option maxHeartbeats 2000000 in
set_option maxRecDepth 100000 in
theorem rstep_any (n : Nat) (h2 : n ≤ 32) (f : Nat) (hN : NodeOk n f) (t : Nat) (A : Option Addr) (k c : Nat) (m : List Pr) (w : World) (hft : f + 1 + t = 2 * n) (hm : ItSl w n A k c m) (hs : Hm.Srt n m) (hpre : Hm.Pre n t m) (hk : k < 524288) (hsz0 : prSize m < 274877906944) (hsz : ∀ p ∈ m, p.key.length < 1048576 ∧ p.val.length < 1048576) :
    Calls Tryz.prog 153 #[.int .i64 n, .slice A k c, .int .i64 t] w fun e w' => ∃ A' k' c', e = .returned (.agg #[.int .u16 (Hm.bm n t m), .slice A' k' c']) ∧ Below w.heap.size w w' ∧ (kidsL n f t m 16).length = k' ∧ Rd w' A' (dgs (kidsL n f t m 16)).flatten := by
  have hst := Stp.start n f t m w
  have HA := hid (And.intro hN (And.intro hm (And.intro hs (And.intro hpre (And.intro hsz0 (And.intro hsz hst))))))
  have ht64 : t + 1 < 65 := by omega
  clear hN hm hs hpre hsz0 hsz hst
  go_enter Tryz.func153, Tryz.ntmps153
  go_wp2_with fail
  go_loopg [8] 16 (fun g i' wr => ∃ (i : Nat) (A' : Option Addr) (k' c' : Nat), i + g = 16 ∧ i' = .int .i64 i ∧ Stp n f t m w i i A' k' c' wr)
  case atStart => exact ⟨0, none, 0, 0, by omega, rfl, HA.out.2.2.2.2.2.2⟩
  case round =>
    obtain ⟨i, A', k', c', hi, rfl, hst⟩ := hrel
    have HR := hid hst
    have hk16 : k' ≤ i := by have := kidsL_le n f t m i; rw [hst.kl] at this; exact this
    clear hst
    by_cases hlt : i < 16
    · go_upto_region 6 with (
        (go_at_call 195
         refine (rchild_any n h2 A k c m t i _ (HA.out.2.1.grown HR.out.bl) (by omega) (by omega)).mono ?_
         rintro e w5 ⟨A2, k2, c2, rfl, hb5, hs5, hn5⟩
         have H5 := hid (And.intro (HR.out.grown hb5) (And.intro hs5 hn5))
         clear hb5 hs5 hn5))
      by_cases hk2 : 0 < k2
      · have hhas : Hm.has n t m i = true := by
          rw [Hm.has_child]
          have := H5.out.2.1.1
          cases hc : Hm.child n t i m with
          | nil => rw [hc] at this; simp at this; omega
          | cons _ _ => rfl
        have hkn := kidsL_yes (f := f) hhas
        have hbp := Hm.bmf_plus _ _ hhas
        obtain ⟨q, hq⟩ : ∃ q, q = Hm.bmf (Hm.has n t m) i := ⟨_, rfl⟩
        obtain ⟨q2, hq2⟩ : ∃ q2, q2 = Hm.bmf (Hm.has n t m) (i + 1) := ⟨_, rfl⟩
        have hq2l : q2 < 65536 := by rw [hq2]; exact Nat.lt_of_lt_of_le (Hm.bmf_pow _ _) (Nat.pow_le_pow_right (n := 2) (by decide) (show i + 1 ≤ 16 by omega))
        rw [← hq, ← hq2] at hbp
        have hsb := H5.out.1.sb
        rw [← hq] at hsb
        have hpw := pw16 i hlt
        have q0 := Fut.cell (show w5.cell? ⟨w.heap.size + 1, 0, none⟩ = some (.int .u16 q) from by rw [hsb.cell]; rfl)
        have HX := hid (And.intro hkn (And.intro hbp (And.intro hq2 (And.intro hq hsb))))
        have HH := hid hhas
        clear hkn hbp hq2 hq hhas hsb
        go_upto_region 7 with fail
        refine wp_region_fut_tail 5 (by kernel_rfl) (by kernel_rfl) ?_
        dsimp only [List.take_succ_cons, List.take_zero, List.drop_succ_cons, List.drop_zero]
        repeat go_big_quiet_step (fail)
        refine wpQuiet_nil ?_
        rintro _ ⟨s, rfl⟩
        clear q0
        have hsb6 := HX.out.2.2.2.2.grown s.below
        have k6 : s.v.cell? ⟨w.heap.size + 1, 0, none⟩ = some (.int .u16 q) := by rw [hsb6.cell]; rfl
        have f6 := hsb6.frozen 0
        have H6 := hid (And.intro (H5.out.1.grown s.below) (And.intro (H5.out.2.1.grown s.below) H5.out.2.2))
        have hval : IntKind.u16.wrap ((q : Int) + 2 ^ i) = (q2 : Int) := by
          have := u16_back q2 hq2l
          rw [HX.out.2.1] at this ⊢
          push_cast at this ⊢
          exact this
        have HVAL := hid hval
        clear hsb6 hval
        go_upto_region 8 with fail
        rw [HVAL.out]
        have hst7 := H6.out.1.bit HX.out.2.2.1
        refine wp_world (fun w' => Stp n f t m w (i + 1) i A' k' c' w' ∧ ItSl w' n A2 k2 c2 (Hm.child n t i m)) ⟨hst7, H6.out.2.1.setStep (H6.out.1.sb) (fun a e => by have h1 := H6.out.2.2 a e; have h3 := HR.out.sz; omega)⟩ ?_
        rintro wd ⟨hst, hit⟩
        clear k6 f6 hst7 H6 HVAL
        have kq : wd.cell? ⟨w.heap.size + 1, 1, none⟩ = some (.slice A' k' c') := by rw [hst.sb.cell]; rfl
        obtain ⟨D, hD⟩ : ∃ D, D = Hm.node n f (t + 1) (Hm.child n t i m) := ⟨_, rfl⟩
        have hDl : D.length = 32 := by rw [hD]; exact Hm.node_len n h2 _ _ _
        have hDm : (D.map b8).length = 32 := by rw [List.length_map, hDl]
        have hwt : IntKind.i64.wrap ((t : Int) + 1) = (t : Int) + 1 := by rw [IntKind.wrap_i64]; omega
        have hd : Below wd.heap.size wd wd.drew := (Below.refl _ _).drew
        have hnode : ∀ w', Below wd.heap.size wd w' → Calls Tryz.prog 102 #[.int .i64 n, .slice A2 k2 c2, .int .i64 ((t : Int) + 1)] w' fun e w'' => e = .returned (dg D) ∧ Below w'.heap.size w' w'' := fun w' hb => by
          rw [hD]
          have hlen : k2 ≤ k := by rw [← hit.1, ← HA.out.2.1.1]; exact List.length_filter_le _ _
          exact HA.out.1 (t + 1) A2 k2 c2 (Hm.child n t i m) w' (by omega) (hit.grown hb) HA.out.2.2.1.child (HA.out.2.2.2.1.child i) (by omega) (Nat.lt_of_le_of_lt (prSize_child _ _ _ _) HA.out.2.2.2.2.1) (fun p hp => HA.out.2.2.2.2.2.1 p (Hm.mem_child.1 hp).1)
        have HT := hid (And.intro hnode (And.intro hd (And.intro hst hD)))
        clear hnode hd hst hit hD H5
        have hbsD := bs_run (P := Tryz.prog) 105 40 (D.map b8) 32 (by decide) hDm (by decide) Tryz.underlying105 (by kernel_rfl)
        rw [show Op.load 105 (.tmp 27) = ldYes from rfl]
        go_region_held3 (fun _ => True) (exact True.intro)
          (first
            | (refine step_ap_own (.tmp 28) (.tmp 34) 105 Tryz.underlying105 info_dgr rfl (by decide) (HT.out.2.2.1.grown (gro H7.out (below_box w7 (.cells (D.map b8).toArray 40)))).ow 1 1 (news := D.map b8) (by rw [hDm]) (Rd.of _ (Blk.new w7 _ _).whole) (one_b8 D) (by simp only [maxLen]; omega) (by omega) (HT.out.2.2.1.grown (gro H7.out (below_box w7 (.cells (D.map b8).toArray 40)))).sz rfl rfl rfl rfl ?_
               intro v9 w9 hn1 hn2 hn3
               obtain ⟨A9, c9, rfl, hr9, hc9⟩ := rd_own hn1
               have hst9 := HT.out.2.2.1.yes HH.out (gro H7.out (below_box w7 (.cells (D.map b8).toArray 40))) HT.out.2.2.2 hn1 hn2
               have k9 := hst9.1.1
               have f9 := hst9.1.2
               have HN := hid hst9.2
               clear hn1 hn2 hn3 hr9 hc9 hst9)
            | (go_at_call 102
               refine (HT.out.1 _ HT.out.2.1).mono ?_
               rintro e w7 ⟨rfl, hb7⟩
               have h7 := gro HT.out.2.1 hb7
               have kq7 : w7.cell? ⟨w.heap.size + 1, 1, none⟩ = some (.slice A' k' c') := (by rw [(HT.out.2.2.1.grown h7).sb.cell]; rfl)
               have kq7a : ∀ o, (w7.alloc o).cell? ⟨w.heap.size + 1, 1, none⟩ = some (.slice A' k' c') := (fun o => by rw [((HT.out.2.2.1.grown h7).sb.alloc o).cell]; rfl)
               have H7 := hid h7
               clear hb7 h7))
        all_goals
          go_wp2_with fail
          go_roundg (gk - 1)
          case measure => omega
          case rel => exact ⟨i + 1, A9, k' + 1, c9, by omega, by go_num, HN.out⟩
      · have hhas : Hm.has n t m i = false := by
          rw [Hm.has_child]
          have := H5.out.2.1.1
          cases hc : Hm.child n t i m with
          | nil => rfl
          | cons _ _ => rw [hc] at this; simp at this; omega
        have HH := hid hhas
        have hk20 : ¬ (0 : Int) < (k2 : Int) := by omega
        clear hhas
        go_wp2_with fail
        go_roundg (gk - 1)
        case measure => omega
        case rel => exact ⟨i + 1, A', k', c', by omega, by go_num, H5.out.1.no HH.out⟩
    · obtain rfl : i = 16 := by omega
      have hp := HR.out.sb.whole
      have ht := HR.out.rt.there 0 2 (by simp)
      obtain ⟨b, hb⟩ : ∃ b, b = Hm.bmf (Hm.has n t m) 16 := ⟨_, rfl⟩
      rw [← hb] at hp
      have hoc : ∀ v ∈ [Value.int .u16 b, .slice A' k' c'], v.oneCell' = true := fun v hv => by
        simp only [List.mem_cons, List.not_mem_nil, or_false] at hv
        rcases hv with rfl | rfl <;> rfl
      have HB := hid hb
      clear hb
      go_wp2_with (first
        | ((with_reducible refine ld_mid 151 (.tmp 7) (w.heap.size + 1) 0 [.int .u16 b, .slice A' k' c'] 2 _ rfl hp Tryz.underlying151 rfl (by kernel_rfl) ?_ ?_ ?_ ?_); rfl; rfl; rfl)
        | ((with_reducible refine st_mid 151 (.tmp 6) (.tmp 37) w.heap.size 0 [.int .u16 b, .slice A' k' c'] 2 rfl ht (by kernel_rfl) hoc ?_ ?_ ?_ ?_ ?_); rfl; rfl; rfl; rfl))
      have hrd := (own_rd HR.out.ow).1.kept ((Kept.refl (· = w.heap.size) wr).setN 0 [.int .u16 b, .slice A' k' c']) (fun a e hn => by subst e; have := (HR.out.ow.lt a.block rfl).1; show ¬ a.block = w.heap.size; omega)
      exact rt_cell w.heap.size 0 [.int .u16 b, .slice A' k' c'] 2 _ rfl (World.rangeAt_setCells_same _ _ _ _ ht) Tryz.underlying151 rfl (by kernel_rfl) rfl rfl rfl ⟨A', k', c', by rw [HB.out]; rfl, below_setCells _ (Nat.le_refl _) _ _ _ HR.out.bl, HR.out.kl, hrd⟩
end Go.Proofs.YtpnakfeafekneaaGreatDoor
