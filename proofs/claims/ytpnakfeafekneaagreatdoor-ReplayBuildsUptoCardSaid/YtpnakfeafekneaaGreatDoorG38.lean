/- Part 38 of this proof: YB, YC, YD. -/
import Derived.Test.YtpnakfeafekneaaGreatDoorG37
set_option linter.unusedSimpArgs false
set_option linter.unusedVariables false
/- The reference's map: Delete, child. -/
namespace Go.Proofs.YtpnakfeafekneaaGreatDoor
open Go.RowKit
theorem info_item : (Tryz.prog.info? 225).map (fun i => (i.zero, i.size, i.bytes)) = some (some (.agg (List.replicate 32 (Value.int .u8 0) ++ [Value.slice none 0 0, Value.slice none 0 0]).toArray), 34, 80) := by kernel_rfl
theorem rd_item {w : World} {n : Nat} {A : Option Addr} {L : List (List Value)} {m : List Pr} (h2 : n ≤ 32) (hA : Rd w A L.flatten) (hP : ItsAt w n L m) (j : Nat) (hj : j < m.length) : ∃ g o x, A = some ⟨g, o, none⟩ ∧ w.rangeAt g (o + j * 34) x ∧ x.length = 34 ∧ (∀ v ∈ x, v.oneCell' = true) ∧ ItAt w n x m[j] := by
  have hL := hP.len
  have hjl : j < L.length := by omega
  have h34 := hP.all34 h2
  obtain ⟨g, o, rfl, hr⟩ := hA (by
    intro e
    have := flatten_len 34 _ h34
    rw [e] at this
    simp at this; omega)
  have hp := range_part hr h34 j hjl
  have hi := hP.at_ j L[j] m[j] (by simp [hjl]) (by simp [hj])
  exact ⟨g, o, L[j], rfl, hp, hi.len h2, hi.oc, hi⟩
/-- A row of items of the call's own. -/
structure Itr (B n : Nat) (w0 w : World) (A : Option Addr) (k c : Nat) (m : List Pr) : Prop where
  ex : ∃ L, w.ownsRow B 225 34 (.slice A k c) k L.flatten ∧ ItsAt w n L m
  len : m.length = k
  bl : Below B w0 w
theorem Itr.start (n : Nat) (w : World) : Itr w.heap.size n w w none 0 0 [] := ⟨⟨[], World.ownsRow_nil _ _ _ _, ItsAt.nil _ _⟩, rfl, Below.refl _ _⟩
theorem Itr.grown {B n : Nat} {w0 w w' : World} {A : Option Addr} {k c : Nat} {m : List Pr} (h : Itr B n w0 w A k c m) (hB : B ≤ w.heap.size) (hb : Below w.heap.size w w') : Itr B n w0 w' A k c m := by
  obtain ⟨⟨L, h1, h2⟩, h3, h4⟩ := h
  exact ⟨⟨L, own_grown h1 hb, h2.grown hb⟩, h3, h4.trans (hb.mono hB)⟩
/-- An item appended: the literal of one element, and append. -/
theorem ap_item {ops : Array Oper} {rest : List Oper} {o : Oper} {a : Act} {w w0 : World} {Q : Exit → Act → World → Prop} (s x : Operand) {B n k c : Nat} {A : Option Addr} {m : List Pr} (h2 : n ≤ 32) (hown : Itr B n w0 w A k c m) (hB : B ≤ w.heap.size) (y : List Value) (p : Pr) (hy : ItAt w n y p) (hk : k < 1048576)
    (hgd : o.guard = none) (ho : o.op = .call { callee := .builtin .append, args := #[s, x], argTypes := #[120, 120] }) (hs : a.eval s = .slice A k c) (hx : a.eval x = .slice (some ⟨w.heap.size, 0, none⟩) 1 1)
    (h : ∀ A' c' w', Itr B n w0 w' A' (k + 1) c' (m ++ [p]) → But 225 (w.alloc (.cells y.toArray 225)) w' → wpList Tryz.prog ops Q rest (a.put o.dst (.slice A' (k + 1) c')) w') : wpList Tryz.prog ops Q (o :: rest) a (w.alloc (.cells y.toArray 225)) := by
  obtain ⟨⟨L, h1, h3⟩, h4, h5⟩ := hown
  have hy34 := hy.len h2
  have hb := below_box w (.cells y.toArray 225)
  refine ap_own s x 120 Tryz.underlying120 info_item rfl (by decide) (own_grown h1 hb) 1 1 (news := y) (by omega) (Rd.of _ (Blk.new w _ y).whole) hy.oc (by unfold maxLen; omega) (by omega) (Nat.le_trans hB hb.size) hgd ho hs hx ?_
  intro v' w' g1 g2 _ _
  obtain ⟨A', c', rfl, _, _⟩ := rd_own g1
  have hbut := But.append (own_grown h1 hb) g2
  have hpure := hbut.pure (by decide)
  refine h A' c' w' ⟨⟨L ++ [y], by rw [List.flatten_append]; simpa using g1, ?_⟩, by simp [h4], grownBy_below (own_grown h1 hb) (h5.trans (hb.mono hB)) (Nat.le_trans hB hb.size) g2⟩ hbut
  exact ((h3.grown hb).append (ItsAt.one (hy.grown hb))).stay hpure
theorem Itr.rd {B n : Nat} {w0 w : World} {A : Option Addr} {k c : Nat} {m : List Pr} (h : Itr B n w0 w A k c m) : ∃ L, Rd w A L.flatten ∧ ItsAt w n L m ∧ k ≤ c := by
  obtain ⟨⟨L, h1, h2⟩, h3, h4⟩ := h
  exact ⟨L, (own_rd h1).1, h2, (own_rd h1).2⟩
/-- A slice that reads as these items. -/
def ItSl (w : World) (n : Nat) (A : Option Addr) (k c : Nat) (m : List Pr) : Prop := m.length = k ∧ k ≤ c ∧ ∃ L, Rd w A L.flatten ∧ ItsAt w n L m
theorem Itr.sl {B n : Nat} {w0 w : World} {A : Option Addr} {k c : Nat} {m : List Pr} (h : Itr B n w0 w A k c m) : ItSl w n A k c m := by
  obtain ⟨L, h1, h2, h3⟩ := h.rd
  exact ⟨h.len, h3, L, h1, h2⟩
theorem ItSl.grown {w w' : World} {n : Nat} {A : Option Addr} {k c : Nat} {m : List Pr} (h : ItSl w n A k c m) (hb : Below w.heap.size w w') : ItSl w' n A k c m := by
  obtain ⟨h1, h2, L, h3, h4⟩ := h
  exact ⟨h1, h2, L, h3.grown hb, h4.grown hb⟩
theorem del_take (key : List UInt8) (m : List Pr) (j : Nat) (hj : j < m.length) : Hm.del key (m.take (j + 1)) = if m[j].key = key then Hm.del key (m.take j) else Hm.del key (m.take j) ++ [m[j]] := by
  unfold Hm.del
  rw [List.take_succ_eq_append_getElem hj, List.filter_append]
  by_cases h : m[j].key = key
  · simp [h]
  · simp [h]
theorem child_take (n t i : Nat) (m : List Pr) (j : Nat) (hj : j < m.length) : Hm.child n t i (m.take (j + 1)) = if Hm.dig n t m[j] = i then Hm.child n t i (m.take j) ++ [m[j]] else Hm.child n t i (m.take j) := by
  unfold Hm.child
  rw [List.take_succ_eq_append_getElem hj, List.filter_append]
  by_cases h : Hm.dig n t m[j] = i
  · simp [h]
  · simp [h]
set_option maxHeartbeats 2000000 in
set_option maxRecDepth 100000 in
theorem rdelete_any (n : Nat) (h2 : n ≤ 32) (A : Option Addr) (k c : Nat) (m : List Pr) (B : Option Addr) (kn kc : Nat) (key : List UInt8) (w : World) (hm : ItSl w n A k c m) (hkn : key.length = kn) (hB : Rd w B (key.map b8)) (hk : k < 1048576) (hkn2 : kn < 1048576) (hsz : ∀ p ∈ m, p.key.length < 1048576) :
    Calls Tryz.prog 104 #[.slice A k c, .slice B kn kc] w fun e w' => ∃ A' k' c' b, e = .returned (.tuple #[.slice A' k' c', .bool b]) ∧ Below w.heap.size w w' ∧ ItSl w' n A' k' c' (Hm.del key m) := by
  obtain ⟨hmk, hkc, L, hA, hL⟩ := hm
  have HA := hid (And.intro hA (And.intro hL (And.intro hkn (And.intro hB (And.intro hsz hmk)))))
  clear hA hL hkn hB hsz
  go_enter Tryz.func104, Tryz.ntmps104
  go_wp2_with fail
  go_loopg [6, 11] k (fun g s3 i wr => ∃ (j : Nat) (A' : Option Addr) (c' k' : Nat), j + g = k ∧ k' ≤ j ∧ i = .int .i64 j ∧ s3 = .slice A' k' c' ∧ Itr w.heap.size n w wr A' k' c' (Hm.del key (m.take j)))
  case atStart => exact ⟨0, none, 0, 0, by omega, Nat.le_refl _, rfl, rfl, Itr.start n w⟩
  case round =>
    obtain ⟨j, A', c', k', hj, hkj, rfl, rfl, hi⟩ := hrel
    have HR := hid hi
    clear hi
    by_cases hlt : j < k
    · have hjm : j < m.length := by omega
      have hdt := del_take key m j hjm
      have hpsz := HA.out.2.2.2.2.1 m[j] (List.getElem_mem hjm)
      obtain ⟨g, o, x, rfl, hp, hx34, hxo, hx⟩ := rd_item h2 HA.out.1 HA.out.2.1 j hjm
      obtain ⟨p, hpe⟩ : ∃ p, p = m[j] := ⟨_, rfl⟩
      rw [← hpe] at hx hdt hpsz
      have hlb := range_lt hp (by omega)
      have hp2 := range_below hp HR.out.bl hlb
      obtain ⟨A1, c1, A2, c2, -, k1, -, r1, -⟩ := it_cells h2 hx (Blk.new wr 225 x)
      have hp9 := (Blk.new wr 225 x).whole
      have hb1 := below_box wr (.cells x.toArray 225)
      obtain ⟨np, hnp⟩ : ∃ np, p.key.length = np := ⟨_, rfl⟩
      rw [hnp] at k1 hpsz
      have HX := hid (And.intro hx (And.intro hdt (And.intro r1 (And.intro hnp (And.intro hb1 hp9)))))
      clear hx hdt r1 hnp hb1 hp9 hp hlb hpe
      by_cases heq : p.key = key
      · go_wp2_with (first
          | ((with_reducible refine ld_mid 225 (.tmp 13) g (o + j * 34) x 34 _ hx34 hp2 Tryz.underlying225 rfl (by kernel_rfl) ?_ ?_ ?_ ?_); rfl; rfl; rfl)
          | ((with_reducible refine st_new 225 (.tmp 8) (.tmp 14) _ _ x 34 hx34 ?_ (by kernel_rfl) hxo ?_ ?_ ?_ ?_ ?_); rfl; rfl; rfl; rfl; rfl)
          | (go_at_call 36
             refine (same_any A1 np c1 p.key B kn kc key _ HX.out.2.2.2.1 HA.out.2.2.1 (HX.out.2.2.1.grown (HR.out.bl.trans (HX.out.2.2.2.2.1.mono HR.out.bl.size))) (HA.out.2.2.2.1.grown (HR.out.bl.trans (HX.out.2.2.2.2.1.mono HR.out.bl.size))) (by omega) (by omega)).mono ?_
             rintro e w5 ⟨rfl, hb5⟩
             rw [show (p.key == key) = true from by simpa using heq]
             have H5 := hid hb5
             clear hb5))
        go_roundg (gk - 1)
        case measure => omega
        case rel => exact ⟨j + 1, A', c', k', by omega, by omega, by go_num, rfl, by rw [HX.out.2.1, if_pos heq]; exact (HR.out.grown HR.out.bl.size HX.out.2.2.2.2.1).grown (gro HR.out.bl HX.out.2.2.2.2.1).size H5.out⟩
      · go_wp2_with (first
          | ((with_reducible refine ld_mid 225 (.tmp 13) g (o + j * 34) x 34 _ hx34 hp2 Tryz.underlying225 rfl (by kernel_rfl) ?_ ?_ ?_ ?_); rfl; rfl; rfl)
          | ((with_reducible refine st_new 225 (.tmp 8) (.tmp 14) _ _ x 34 hx34 ?_ (by kernel_rfl) hxo ?_ ?_ ?_ ?_ ?_); rfl; rfl; rfl; rfl; rfl)
          | (go_at_call 36
             refine (same_any A1 np c1 p.key B kn kc key _ HX.out.2.2.2.1 HA.out.2.2.1 (HX.out.2.2.1.grown (HR.out.bl.trans (HX.out.2.2.2.2.1.mono HR.out.bl.size))) (HA.out.2.2.2.1.grown (HR.out.bl.trans (HX.out.2.2.2.2.1.mono HR.out.bl.size))) (by omega) (by omega)).mono ?_
             rintro e w5 ⟨rfl, hb5⟩
             rw [show (p.key == key) = false from by simpa using heq]
             have hp5 := range_grown HX.out.2.2.2.2.2 hb5
             have hbs5 := (gro (gro HR.out.bl HX.out.2.2.2.2.1) hb5).size
             have hsl : ∀ y ∈ [x], y.length = 34 := (fun y hy => by rw [List.mem_singleton] at hy; subst hy; exact hx34)
             have H5 := hid (And.intro ((HR.out.grown HR.out.bl.size HX.out.2.2.2.2.1).grown (gro HR.out.bl HX.out.2.2.2.2.1).size hb5) (HX.out.1.grown (gro (gro HR.out.bl HX.out.2.2.2.2.1) hb5)))
             clear hb5)
          | ((with_reducible refine ld_mid 225 (.tmp 8) wr.heap.size 0 x 34 _ hx34 hp5 Tryz.underlying225 rfl (by kernel_rfl) ?_ ?_ ?_ ?_); rfl; rfl; rfl)
          | ((with_reducible refine bs_own 120 225 1 #[(0, .tmp 22)] [x] 34 (by decide) hsl rfl (by decide) (by decide) Tryz.underlying120 (by kernel_rfl) ?_ ?_ ?_ ?_); rfl; rfl; rfl; rw [List.flatten_singleton])
          | ((with_reducible refine ap_item (.tmp 21) (.tmp 23) h2 H5.out.1 hbs5 x p H5.out.2 (by omega) ?_ ?_ ?_ ?_ ?_); rfl; rfl; rfl; rfl
             intro A9 c9 w9 hn1 _
             have H9 := hid hn1
             clear hn1))
        go_roundg (gk - 1)
        case measure => omega
        case rel => exact ⟨j + 1, A9, c9, k' + 1, by omega, by omega, by go_num, rfl, by rw [HX.out.2.1, if_neg heq]; exact H9.out⟩
    · obtain rfl : j = k := by omega
      have hfin := HR.out
      rw [List.take_of_length_le (by omega)] at hfin
      have HF := hid hfin
      clear hfin
      go_wp2_with fail
      go_ret2
      exact ⟨A', k', c', _, rfl, HF.out.bl, HF.out.sl⟩
end Go.Proofs.YtpnakfeafekneaaGreatDoor

/- The reference's map: child, Pairs. -/
namespace Go.Proofs.YtpnakfeafekneaaGreatDoor
open Go.RowKit
theorem Itr.new {B n : Nat} {w0 w : World} {A : Option Addr} {k c : Nat} {m : List Pr} (h : Itr B n w0 w A k c m) : ∀ a, A = some a → B ≤ a.block := by
  obtain ⟨⟨L, h1, h2⟩, h3, h4⟩ := h
  rintro a rfl
  exact (h1.lt a.block rfl).1
set_option maxHeartbeats 2000000 in
set_option maxRecDepth 100000 in
theorem rchild_any (n : Nat) (h2 : n ≤ 32) (A : Option Addr) (k c : Nat) (m : List Pr) (t i : Nat) (w : World) (hm : ItSl w n A k c m) (hk : k < 1048576) (ht : t < 64) :
    Calls Tryz.prog 195 #[.slice A k c, .int .i64 t, .int .i64 i] w fun e w' => ∃ A' k' c', e = .returned (.slice A' k' c') ∧ Below w.heap.size w w' ∧ ItSl w' n A' k' c' (Hm.child n t i m) ∧ ∀ a, A' = some a → w.heap.size ≤ a.block := by
  obtain ⟨hmk, hkc, L, hA, hL⟩ := hm
  have HA := hid (And.intro hA (And.intro hL hmk))
  clear hA hL
  go_enter Tryz.func195, Tryz.ntmps195
  go_wp2_with fail
  go_loopg [7, 12] k (fun g s3 i' wr => ∃ (j : Nat) (A' : Option Addr) (c' k' : Nat), j + g = k ∧ k' ≤ j ∧ i' = .int .i64 j ∧ s3 = .slice A' k' c' ∧ Itr w.heap.size n w wr A' k' c' (Hm.child n t i (m.take j)))
  case atStart => exact ⟨0, none, 0, 0, by omega, Nat.le_refl _, rfl, rfl, Itr.start n w⟩
  case round =>
    obtain ⟨j, A', c', k', hj, hkj, rfl, rfl, hi⟩ := hrel
    have HR := hid hi
    clear hi
    by_cases hlt : j < k
    · have hjm : j < m.length := by omega
      have hdt := child_take n t i m j hjm
      obtain ⟨g, o, x, rfl, hp, hx34, hxo, hx⟩ := rd_item h2 HA.out.1 HA.out.2.1 j hjm
      obtain ⟨p, hpe⟩ : ∃ p, p = m[j] := ⟨_, rfl⟩
      rw [← hpe] at hx hdt
      have hlb := range_lt hp (by omega)
      have hp2 := range_below hp HR.out.bl hlb
      obtain ⟨A1, c1, A2, c2, hd0, -, -, -, -⟩ := it_cells h2 hx (Blk.new wr 225 x)
      obtain ⟨D, hD⟩ : ∃ D, D = Dg.key n p.key := ⟨_, rfl⟩
      have hDl : D.length = 32 := by rw [hD]; exact key_len n h2 _
      have hDm : (D.map b8).length = 32 := by rw [List.length_map, hDl]
      obtain ⟨z, hz⟩ : ∃ z, z = Dg.digit D t := ⟨_, rfl⟩
      have hzd : Hm.dig n t p = z := by rw [hz, hD]; rfl
      rw [← hD] at hd0
      rw [hzd] at hdt
      have hp9 := (Blk.new wr 225 x).whole
      have hb1 := below_box wr (.cells x.toArray 225)
      have HX := hid (And.intro hx (And.intro hdt (And.intro hz (And.intro hb1 hp9))))
      clear hx hdt hb1 hp9 hp hlb hpe hD hzd hz
      by_cases heq : z = i
      · have hze : (z : Int) = (i : Int) := by omega
        go_wp2_with (first
          | ((with_reducible refine ld_mid 225 (.tmp 14) g (o + j * 34) x 34 _ hx34 hp2 Tryz.underlying225 rfl (by kernel_rfl) ?_ ?_ ?_ ?_); rfl; rfl; rfl)
          | ((with_reducible refine st_new 225 (.tmp 9) (.tmp 15) _ _ x 34 hx34 ?_ (by kernel_rfl) hxo ?_ ?_ ?_ ?_ ?_); rfl; rfl; rfl; rfl; rfl)
          | ((with_reducible refine ld_mid 40 (.tmp 16) wr.heap.size 0 (D.map b8) 32 _ hDm hd0 Tryz.underlying40 rfl (by kernel_rfl) ?_ ?_ ?_ ?_); rfl; rfl; rfl)
          | (go_at_call 213
             refine (rdigit_any D t hDl ht _).mono ?_
             rintro e w5 ⟨rfl, hb5⟩
             rw [← HX.out.2.2.1]
             have hp5 := range_grown HX.out.2.2.2.2 hb5
             have hbs5 := (gro (gro HR.out.bl HX.out.2.2.2.1) hb5).size
             have hsl : ∀ y ∈ [x], y.length = 34 := (fun y hy => by rw [List.mem_singleton] at hy; subst hy; exact hx34)
             have H5 := hid (And.intro ((HR.out.grown HR.out.bl.size HX.out.2.2.2.1).grown (gro HR.out.bl HX.out.2.2.2.1).size hb5) (HX.out.1.grown (gro (gro HR.out.bl HX.out.2.2.2.1) hb5)))
             clear hb5)
          | ((with_reducible refine ld_mid 225 (.tmp 9) wr.heap.size 0 x 34 _ hx34 hp5 Tryz.underlying225 rfl (by kernel_rfl) ?_ ?_ ?_ ?_); rfl; rfl; rfl)
          | ((with_reducible refine bs_own 120 225 1 #[(0, .tmp 23)] [x] 34 (by decide) hsl rfl (by decide) (by decide) Tryz.underlying120 (by kernel_rfl) ?_ ?_ ?_ ?_); rfl; rfl; rfl; rw [List.flatten_singleton])
          | ((with_reducible refine ap_item (.tmp 22) (.tmp 24) h2 H5.out.1 hbs5 x p H5.out.2 (by omega) ?_ ?_ ?_ ?_ ?_); rfl; rfl; rfl; rfl
             intro A9 c9 w9 hn1 _
             have H9 := hid hn1
             clear hn1))
        go_roundg (gk - 1)
        case measure => omega
        case rel => exact ⟨j + 1, A9, c9, k' + 1, by omega, by omega, by go_num, rfl, by rw [HX.out.2.1, if_pos heq]; exact H9.out⟩
      · have hze : ¬ (z : Int) = (i : Int) := by omega
        go_wp2_with (first
          | ((with_reducible refine ld_mid 225 (.tmp 14) g (o + j * 34) x 34 _ hx34 hp2 Tryz.underlying225 rfl (by kernel_rfl) ?_ ?_ ?_ ?_); rfl; rfl; rfl)
          | ((with_reducible refine st_new 225 (.tmp 9) (.tmp 15) _ _ x 34 hx34 ?_ (by kernel_rfl) hxo ?_ ?_ ?_ ?_ ?_); rfl; rfl; rfl; rfl; rfl)
          | ((with_reducible refine ld_mid 40 (.tmp 16) wr.heap.size 0 (D.map b8) 32 _ hDm hd0 Tryz.underlying40 rfl (by kernel_rfl) ?_ ?_ ?_ ?_); rfl; rfl; rfl)
          | (go_at_call 213
             refine (rdigit_any D t hDl ht _).mono ?_
             rintro e w5 ⟨rfl, hb5⟩
             rw [← HX.out.2.2.1]
             have H5 := hid hb5
             clear hb5))
        go_roundg (gk - 1)
        case measure => omega
        case rel => exact ⟨j + 1, A', c', k', by omega, by omega, by go_num, rfl, by rw [HX.out.2.1, if_neg heq]; exact (HR.out.grown HR.out.bl.size HX.out.2.2.2.1).grown (gro HR.out.bl HX.out.2.2.2.1).size H5.out⟩
    · obtain rfl : j = k := by omega
      have hfin := HR.out
      rw [List.take_of_length_le (by have := HA.out.2.2; omega)] at hfin
      have HF := hid hfin
      clear hfin
      go_wp2_with fail
      go_ret
      exact ⟨A', k', c', rfl, HF.out.bl, HF.out.sl, HF.out.new⟩
theorem PairAt.but {w w' : World} (h : But 166 w w') {x : List Value} {p : Pr} (hp : PairAt w x p) : PairAt w' x p := by
  obtain ⟨A1, c1, A2, c2, e, h1, h2, h3, h4, h5, h6⟩ := hp
  exact ⟨A1, c1, A2, c2, e, Stay.rdb h h1 h5 (by decide), Stay.rdb h h2 h6 (by decide), h3, h4, Stay.tyb h h5 (by decide), Stay.tyb h h6 (by decide)⟩
theorem PairsAt.but {w w' : World} (h : But 166 w w') {L : List (List Value)} {m : List Pr} (hp : PairsAt w L m) : PairsAt w' L m := ⟨hp.len, fun i x p h1 h2 => (hp.at_ i x p h1 h2).but h⟩
set_option maxHeartbeats 2000000 in
set_option maxRecDepth 100000 in
theorem rpairs_any (n : Nat) (h2 : n ≤ 32) (A : Option Addr) (k c : Nat) (m : List Pr) (w : World) (hm : ItSl w n A k c m) (hk : k < 1048576) :
    Calls Tryz.prog 152 #[.slice A k c] w fun e w' => ∃ A' c' L', e = .returned (.slice A' k c') ∧ Below w.heap.size w w' ∧ Rd w' A' L'.flatten ∧ PairsAt w' L' m := by
  obtain ⟨hmk, hkc, L, hA, hL⟩ := hm
  have HA := hid (And.intro hA (And.intro hL hmk))
  clear hA hL
  go_enter Tryz.func152, Tryz.ntmps152
  go_wp2_with fail
  go_loopg [3, 8] k (fun g s3 i' wr => ∃ (j : Nat) (A' : Option Addr) (c' : Nat) (L' : List (List Value)), j + g = k ∧ i' = .int .i64 j ∧ s3 = .slice A' j c' ∧ wr.ownsRow w.heap.size 166 2 (.slice A' j c') j L'.flatten ∧ PairsAt wr L' (m.take j) ∧ Below w.heap.size w wr)
  case atStart => exact ⟨0, none, 0, [], by omega, rfl, rfl, World.ownsRow_nil _ _ _ _, ⟨rfl, fun i x p h => by simp at h⟩, Below.refl _ _⟩
  case round =>
    obtain ⟨j, A', c', L', hj, rfl, rfl, ho, hP, hbl⟩ := hrel
    have HR := hid (And.intro ho (And.intro hP hbl))
    clear ho hP hbl
    by_cases hlt : j < k
    · have hjm : j < m.length := by omega
      have hdt : m.take (j + 1) = m.take j ++ [m[j]] := List.take_succ_eq_append_getElem hjm
      obtain ⟨g, o, x, rfl, hp, hx34, hxo, hx⟩ := rd_item h2 HA.out.1 HA.out.2.1 j hjm
      obtain ⟨p, hpe⟩ : ∃ p, p = m[j] := ⟨_, rfl⟩
      rw [← hpe] at hx hdt
      have hlb := range_lt hp (by omega)
      have hp2 := range_below hp HR.out.2.2 hlb
      obtain ⟨y, rfl, hy⟩ := hx
      have hyl : y.length = 2 := by obtain ⟨A1, c1, A2, c2, e, -⟩ := hy; rw [e]; rfl
      have hyo : ∀ v ∈ y, v.oneCell' = true := fun v hv => hxo v (List.mem_append.2 (.inr hv))
      have hbk := Blk.new wr 225 ((Dg.key n p.key).map b8 ++ y)
      have hb1 := below_box wr (.cells ((Dg.key n p.key).map b8 ++ y).toArray 225)
      have hr2 := (range_halves hbk.whole).2
      rw [show ((Dg.key n p.key).map b8).length = 32 from by rw [List.length_map]; exact key_len n h2 _] at hr2
      obtain ⟨x, hxe⟩ : ∃ x, x = (Dg.key n p.key).map b8 ++ y := ⟨_, rfl⟩
      rw [← hxe] at hx34 hxo hp2 hbk hb1 hr2
      have hb2 := below_box (wr.alloc (.cells x.toArray 225)) (.cells [y].flatten.toArray 166)
      have hr8 := Rd.of _ (Blk.new (wr.alloc (.cells x.toArray 225)) 166 [y].flatten).whole
      have hsl : ∀ z ∈ [y], z.length = 2 := fun z hz => by rw [List.mem_singleton] at hz; subst hz; exact hyl
      have hsl2 : [y].flatten.length = 1 * 2 := by simp [hyl]
      have hso : ∀ v ∈ [y].flatten, v.oneCell' = true := fun v hv => hyo v (by simpa using hv)
      have h63 : j + 1 ≤ maxLen := by simp only [maxLen]; omega
      have hby : (j + 1) * 48 ≤ 140737488355328 := by omega
      have hbw := gro hb1 hb2
      have hbs8 := (gro HR.out.2.2 hbw).size
      have HX := hid (And.intro hy (And.intro hdt (And.intro hbw (And.intro (own_grown HR.out.1 hbw) hr8))))
      clear hy hdt hb1 hp hlb hpe hbk hb2 hr8 hbw hxe hyo
      go_wp2_with (first
        | ((with_reducible refine ld_mid 225 (.tmp 10) g (o + j * 34) x 34 _ hx34 hp2 Tryz.underlying225 rfl (by kernel_rfl) ?_ ?_ ?_ ?_); rfl; rfl; rfl)
        | ((with_reducible refine st_new 225 (.tmp 5) (.tmp 11) _ _ x 34 hx34 ?_ (by kernel_rfl) hxo ?_ ?_ ?_ ?_ ?_); rfl; rfl; rfl; rfl; rfl)
        | ((with_reducible refine ld_mid 166 (.tmp 13) wr.heap.size 32 y 2 _ hyl hr2 Tryz.underlying166 rfl (by kernel_rfl) ?_ ?_ ?_ ?_); rfl; rfl; rfl)
        | ((with_reducible refine bs_own 110 166 1 #[(0, .tmp 14)] [y] 2 (by decide) hsl rfl (by decide) (by decide) Tryz.underlying110 (by kernel_rfl) ?_ ?_ ?_ ?_); rfl; rfl; rfl)
        | ((with_reducible refine ap_own (.tmp 12) (.tmp 15) 110 Tryz.underlying110 info_pair rfl (by decide) HX.out.2.2.2.1 1 1 hsl2 HX.out.2.2.2.2 hso h63 hby hbs8 ?_ ?_ ?_ ?_ ?_); rfl; rfl; rfl; rfl
           intro v9 w9 hn1 hn2 hn3 hn4
           obtain ⟨A9, c9, rfl, hr9, hc9⟩ := rd_own hn1
           have H9 := hid (And.intro hn1 (And.intro (But.append HX.out.2.2.2.1 hn2) (grownBy_below HX.out.2.2.2.1 (gro HR.out.2.2 HX.out.2.2.1) hbs8 hn2)))
           clear hn1 hn2 hn3 hn4 hr9 hc9))
      go_roundg (gk - 1)
      case measure => omega
      case rel =>
        refine ⟨j + 1, A9, c9, L' ++ [y], by omega, by go_num, rfl, by rw [List.flatten_append]; exact H9.out.1, ?_, H9.out.2.2⟩
        rw [HX.out.2.1]
        exact ((HR.out.2.1.grown HX.out.2.2.1).append (PairsAt.one (HX.out.1.grown (gro HR.out.2.2 HX.out.2.2.1)))).but H9.out.2.1
    · obtain rfl : j = k := by omega
      have hel := HR.out.2.1
      rw [List.take_of_length_le (by have := HA.out.2.2; omega)] at hel
      obtain ⟨hr9, -⟩ := own_rd HR.out.1
      have HF := hid (And.intro hel hr9)
      clear hel hr9
      go_wp2_with fail
      go_ret
      exact ⟨A', c', L', rfl, HR.out.2.2, HF.out.2, HF.out.1⟩
end Go.Proofs.YtpnakfeafekneaaGreatDoor

/- The reference's map: single. -/
namespace Go.Proofs.YtpnakfeafekneaaGreatDoor
open Go.RowKit
theorem Hm.cmp_le {n : Nat} {p q : Pr} (h : Hm.cmp n p q < 0) : Lx.cmp (Dg.key n p.key) (Dg.key n q.key) ≤ 0 := by
  unfold Hm.cmp at h
  split at h
  · omega
  · rename_i hh; simp at hh; omega
theorem Hm.single_ends {n : Nat} {m : List Pr} (hs : Hm.Srt n m) (h : 0 < m.length) : Hm.single n m = decide (Dg.key n (m[0]).key = Dg.key n (m[m.length - 1]).key) := by
  have hp := List.pairwise_iff_getElem.1 hs
  by_cases he : Dg.key n (m[0]).key = Dg.key n (m[m.length - 1]).key
  · rw [decide_eq_true he, Hm.single_iff]
    have key : ∀ p ∈ m, Dg.key n p.key = Dg.key n (m[0]).key := by
      intro p hpm
      obtain ⟨i, hi, rfl⟩ := List.getElem_of_mem hpm
      by_cases h0 : i = 0
      · subst h0; rfl
      by_cases h1 : i = m.length - 1
      · subst h1; exact he.symm
      have a := Hm.cmp_le (hp 0 i h hi (by omega))
      have b := Hm.cmp_le (hp i (m.length - 1) hi (by omega) (by omega))
      rw [← he, Lx.cmp_neg] at b
      exact (Lx.cmp_eq (by omega)).symm
    intro p hp1 q hq1
    rw [key p hp1, key q hq1]
  · rw [decide_eq_false he]
    apply Bool.eq_false_iff.2
    intro hh
    exact he (Hm.single_iff.1 hh _ (List.getElem_mem _) _ (List.getElem_mem _))
set_option maxHeartbeats 1000000 in
set_option maxRecDepth 100000 in
theorem rsingle_any (n : Nat) (h2 : n ≤ 32) (A : Option Addr) (k c : Nat) (m : List Pr) (w : World) (hm : ItSl w n A k c m) (hs : Hm.Srt n m) (hk : k < 1048576) :
    Calls Tryz.prog 150 #[.slice A k c] w fun e w' => e = .returned (.bool (Hm.single n m)) ∧ Below w.heap.size w w' := by
  obtain ⟨hmk, hkc, L, hA, hL⟩ := hm
  rcases k with _ | k
  · obtain rfl : m = [] := List.length_eq_zero_iff.1 hmk
    clear hA hL
    go_enter Tryz.func150, Tryz.ntmps150
    go_upto_region 1 with fail
    refine wp_region_fut (by kernel_rfl) (by kernel_rfl) ?_
    repeat go_big_quiet_step (fail)
    refine wpQuiet_nil ?_
    rintro _ ⟨s, rfl⟩
    go_wp2_with fail
    go_ret
    exact ⟨rfl, s.below⟩
  · have hse := Hm.single_ends hs (by omega)
    obtain ⟨g, o, x, rfl, hp, hx34, -, hx⟩ := rd_item h2 hA hL 0 (by omega)
    obtain ⟨g', o', x', e, hp', hx34', -, hx'⟩ := rd_item h2 hA hL (m.length - 1) (by omega)
    cases e
    obtain ⟨y, rfl, -⟩ := hx
    obtain ⟨y', rfl, -⟩ := hx'
    have r1 := (range_halves hp).1
    have r2 := (range_halves hp').1
    obtain ⟨D, hD⟩ : ∃ D, D = Dg.key n (m[0]).key := ⟨_, rfl⟩
    obtain ⟨E, hE⟩ : ∃ E, E = Dg.key n (m[m.length - 1]).key := ⟨_, rfl⟩
    have hDl : D.length = 32 := by rw [hD]; exact key_len n h2 _
    have hEl : E.length = 32 := by rw [hE]; exact key_len n h2 _
    rw [← hD, Nat.zero_mul, Nat.add_zero] at r1
    rw [← hE, show m.length - 1 = k from by omega] at r2
    rw [← hD, ← hE] at hse
    have hDm : (D.map b8).length = 32 := by rw [List.length_map, hDl]
    have hEm : (E.map b8).length = 32 := by rw [List.length_map, hEl]
    have heq := run_eql_bytes (P := Tryz.prog) Tryz.underlying40 Tryz.underlying5 (by kernel_rfl) D E hDl hEl
    have hk1 : ((k + 1 : Nat) : Int) - 1 = (k : Int) := by omega
    have hk0 : ((k : Int) + 1 == 0) = false := by rw [beq_eq_false_iff_ne]; omega
    have HS := hid hse
    clear hse hD hE hp hp' hx34 hx34' hA hL hs
    go_enter Tryz.func150, Tryz.ntmps150
    go_upto_region 1 with fail
    refine wp_region_fut (by kernel_rfl) (by kernel_rfl) ?_
    repeat (first
      | (go_big_quiet_want; (with_reducible refine quiet_ld 40 (.tmp 9) g o _ 32 _ hDm (range_fut r1) Tryz.underlying40 rfl (by kernel_rfl) ?_ ?_ ?_); rfl; rfl; simp only [Act.put, List.setIfInBounds_toArray, List.set_cons_zero, List.set_cons_succ]; go_big_quiet_on)
      | (go_big_quiet_want; (with_reducible refine quiet_ld 40 (.tmp 16) g (o + k * 34) _ 32 _ hEm (range_fut r2) Tryz.underlying40 rfl (by kernel_rfl) ?_ ?_ ?_); rfl; rfl; simp only [Act.put, List.setIfInBounds_toArray, List.set_cons_zero, List.set_cons_succ]; go_big_quiet_on)
      | go_big_quiet_step (fail))
    refine wpQuiet_nil ?_
    rintro _ ⟨s, rfl⟩
    go_wp2_with fail
    go_ret
    exact ⟨by rw [HS.out]; rfl, s.below⟩
end Go.Proofs.YtpnakfeafekneaaGreatDoor
