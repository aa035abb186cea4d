/- Part 27 of this proof: P9, PA, PB. -/
import Derived.Test.YtpnakfeafekneaaGreatDoorG09
import Derived.Test.YtpnakfeafekneaaGreatDoorG26
set_option linter.unusedSimpArgs false
set_option linter.unusedVariables false
namespace Go.Proofs.YtpnakfeafekneaaGreatDoor
open Go.RowKit
section
variable {P : Program}
theorem run_neq_bytes {t e : TypeId} {n : Nat} (ht : P.underlying t = some (.array n e)) (he : P.underlying e = some (.int .u8)) (hs : (P.info? e).map (·.size) = some 1) (xs ys : List UInt8) (hx : xs.length = n) (hy : ys.length = n) (w : World) :
    (binOp .neq t (.agg (xs.map b8).toArray) (.agg (ys.map b8).toArray)).run P w = .ok (.bool (!decide (xs = ys))) w := by
  rw [run_neq_struct]
  have hl := eq_loop he 9998 w xs ys n hx hy n 0 (by omega) rfl
  have e1 : (Op.equalIn (9998 + 1 + 1) t (.agg (xs.map b8).toArray) (.agg (ys.map b8).toArray)).run P w = .ok (decide (xs = ys)) w := by
    rw [Op.equalIn]
    simp only [Sem.run_bind, run_underlying ht, Result.andThen_ok, sizeOf_run hs, Std.Legacy.Range.forIn_eq_forIn_range', Std.Legacy.Range.size]
    simp only [Nat.sub_zero, Nat.add_one_sub_one, Nat.div_one]
    rw [hl]
    by_cases h : xs = ys
    · simp [h]
    · simp [h]
  rw [show (10000 : Nat) = 9998 + 1 + 1 from rfl, e1]
  rfl
end
/-! ### A row of pairs: its places -/
theorem flatten_take {α : Type} (s : Nat) : ∀ (L : List (List α)) (i : Nat), (∀ x ∈ L, x.length = s) → L.flatten.take (i * s) = (L.take i).flatten
  | [], i, _ => by simp
  | x :: L, 0, _ => by simp
  | x :: L, i + 1, h => by
    have hx := h x (by simp)
    rw [List.flatten_cons, List.take_succ_cons, List.flatten_cons, List.take_append, List.take_of_length_le (by rw [hx, Nat.add_mul]; omega), hx, show (i + 1) * s - s = i * s by rw [Nat.add_mul]; omega, flatten_take s L i (fun y hy => h y (by simp [hy]))]
theorem flatten_drop {α : Type} (s : Nat) : ∀ (L : List (List α)) (i : Nat), (∀ x ∈ L, x.length = s) → L.flatten.drop (i * s) = (L.drop i).flatten
  | [], i, _ => by simp
  | x :: L, 0, _ => by simp
  | x :: L, i + 1, h => by
    have hx := h x (by simp)
    rw [List.flatten_cons, List.drop_succ_cons, List.drop_append, List.drop_eq_nil_of_le (by rw [hx, Nat.add_mul]; omega), List.nil_append, hx, show (i + 1) * s - s = i * s by rw [Nat.add_mul]; omega, flatten_drop s L i (fun y hy => h y (by simp [hy]))]
theorem PairsAt.append [Inhabited LoT] {w : World} {L1 L2 : List (List Value)} {m1 m2 : List Pr} (h1 : PairsAt w L1 m1) (h2 : PairsAt w L2 m2) : PairsAt w (L1 ++ L2) (m1 ++ m2) := by
  refine ⟨by rw [List.length_append, List.length_append, h1.len, h2.len], fun i x p hx hp => ?_⟩
  have hl := h1.len
  by_cases hi : i < L1.length
  · rw [List.getElem?_append_left hi] at hx
    rw [List.getElem?_append_left (by omega)] at hp
    exact h1.at_ i x p hx hp
  · rw [List.getElem?_append_right (by omega)] at hx
    rw [List.getElem?_append_right (by omega), ← hl] at hp
    exact h2.at_ _ x p hx hp
theorem PairsAt.take [Inhabited LoT] {w : World} {L : List (List Value)} {m : List Pr} (h : PairsAt w L m) (k : Nat) : PairsAt w (L.take k) (m.take k) := by
  refine ⟨by rw [List.length_take, List.length_take, h.len], fun i x p hx hp => ?_⟩
  rw [List.getElem?_take] at hx hp
  split at hx
  · rename_i hk
    rw [if_pos hk] at hp
    exact h.at_ i x p hx hp
  · cases hx
theorem PairsAt.drop [Inhabited LoT] {w : World} {L : List (List Value)} {m : List Pr} (h : PairsAt w L m) (k : Nat) : PairsAt w (L.drop k) (m.drop k) := by
  refine ⟨by rw [List.length_drop, List.length_drop, h.len], fun i x p hx hp => ?_⟩
  rw [List.getElem?_drop] at hx hp
  exact h.at_ _ x p hx hp
theorem PairsAt.one [Inhabited LoT] {w : World} {x : List Value} {p : Pr} (h : PairAt w x p) : PairsAt w [x] [p] := by
  refine ⟨rfl, fun i y q hy hq => ?_⟩
  cases i with
  | zero => simp at hy hq; subst hy hq; exact h
  | succ i => simp at hy
theorem PairAt.len [Inhabited LoT] {w : World} {x : List Value} {p : Pr} (h : PairAt w x p) : x.length = 2 := by obtain ⟨A1, c1, A2, c2, e, _⟩ := h; rw [e]; rfl
theorem PairAt.oc [Inhabited LoT] {w : World} {x : List Value} {p : Pr} (h : PairAt w x p) : ∀ v ∈ x, v.oneCell' = true := by
  obtain ⟨A1, c1, A2, c2, e, _⟩ := h
  rw [e]
  intro v hv
  rcases List.mem_cons.1 hv with rfl | hv
  · rfl
  · rw [List.mem_singleton] at hv; subst hv; rfl
theorem PairsAt.oc [Inhabited LoT] {w : World} {L : List (List Value)} {m : List Pr} (h : PairsAt w L m) : ∀ v ∈ L.flatten, v.oneCell' = true := by
  intro v hv
  obtain ⟨x, hx, hv⟩ := List.mem_flatten.1 hv
  obtain ⟨i, hi, rfl⟩ := List.getElem_of_mem hx
  have hm : i < m.length := by have := h.len; omega
  exact (h.at_ i L[i] m[i] (by simp [hi]) (by simp [hm])).oc v hv
theorem PairsAt.flat [Inhabited LoT] {w : World} {L : List (List Value)} {m : List Pr} (h : PairsAt w L m) : L.flatten.length = m.length * 2 := by rw [flatten_size 2 _ h.two, h.len]
/-- Where a key stands among sorted pairs, or would. -/
def pos (ps : List Pr) (key : List UInt8) : Nat := (ps.filter fun p => decide (Lx.cmp p.key key < 0)).length
theorem pos_take {ps : List Pr} {key : List UInt8} {i : Nat} (hi : i ≤ ps.length) (h1 : ∀ (j : Nat) (p : Pr), j < i → ps[j]? = some p → Lx.cmp p.key key < 0) (h2 : ∀ (j : Nat) (p : Pr), i ≤ j → ps[j]? = some p → ¬ Lx.cmp p.key key < 0) : pos ps key = i := by
  unfold pos
  conv => lhs; rw [← List.take_append_drop i ps, List.filter_append]
  rw [List.filter_eq_self.2 (fun p hp => by
      obtain ⟨j, hj, rfl⟩ := List.getElem_of_mem hp
      rw [List.length_take] at hj
      simp only [List.getElem_take, decide_eq_true_eq]
      exact h1 j _ (by omega) (List.getElem?_eq_getElem (by omega))),
    (List.filter_eq_nil_iff (l := ps.drop i)).2 (fun p hp => by
      obtain ⟨j, hj, rfl⟩ := List.getElem_of_mem hp
      rw [List.length_drop] at hj
      simp only [List.getElem_drop, decide_eq_true_eq]
      exact h2 (i + j) _ (by omega) (List.getElem?_eq_getElem (by omega)))]
  rw [List.append_nil, List.length_take]
  omega
theorem srt_mono {n : Nat} {m : List Pr} {of : List UInt8} (hs : Hm.Srt n m) (hk : ∀ p ∈ m, Dg.key n p.key = of) {i j : Nat} {p q : Pr} (hij : i < j) (hp : m[i]? = some p) (hq : m[j]? = some q) : Lx.cmp p.key q.key < 0 := by
  obtain ⟨hi, rfl⟩ := List.getElem?_eq_some_iff.1 hp
  obtain ⟨hj, rfl⟩ := List.getElem?_eq_some_iff.1 hq
  have := (List.pairwise_iff_getElem.1 hs) i j hi hj hij
  rwa [Hm.cmp_of_eq ((hk _ (List.getElem_mem hi)).trans (hk _ (List.getElem_mem hj)).symm)] at this
theorem find_at [Inhabited LoT] (n : Nat) (A Ak : Option Addr) (c ck : Nat) (L : List (List Value)) (m : List Pr) (of key : List UInt8) (w : World) (hA : Rd w A L.flatten) (hP : PairsAt w L m) (hk : Rd w Ak (key.map b8)) (hb : Bnd m) (hs : Hm.Srt n m) (hof : ∀ p ∈ m, Dg.key n p.key = of) :
    Calls Tryz.prog 94 #[.slice A m.length c, .slice Ak key.length ck] w fun e w' => e = .returned (.tuple #[.int .i64 (pos m key), .bool (fnd m (pos m key) key)]) ∧ Below w.heap.size w w' := by
  refine (find_any A Ak c ck L m key w hA hP hk (by have := hb.1; omega) (fun p hp => by have := (hb.2 p hp).1; omega) (fun i j p q hij hp hq h => Lx.cmp_trans (srt_mono hs hof hij hp hq) h)).mono ?_
  rintro e w' ⟨i, he, hb', hi, h1, h2⟩
  have := pos_take hi h1 h2
  rw [this]
  exact ⟨he, hb'⟩
structure Spot (n : Nat) (m : List Pr) (key : List UInt8) : Prop where
  le : pos m key ≤ m.length
  lo : ∀ p ∈ m.take (pos m key), Lx.cmp p.key key < 0
  hi : ∀ p ∈ m.drop (pos m key), ¬ Lx.cmp p.key key < 0
  up : ∀ p ∈ m.drop (pos m key + 1), 0 < Lx.cmp p.key key
/-- The filter's count is the place, for sorted pairs. -/
theorem spot [Inhabited LoT] {n : Nat} {m : List Pr} {of key : List UInt8} (hs : Hm.Srt n m) (hof : ∀ p ∈ m, Dg.key n p.key = of) : Spot n m key := by
  have h : ∀ m : List Pr, Hm.Srt n m → (∀ p ∈ m, Dg.key n p.key = of) → (∀ p ∈ m.take (pos m key), Lx.cmp p.key key < 0) ∧ (∀ p ∈ m.drop (pos m key), ¬ Lx.cmp p.key key < 0) := by
    intro m
    induction m with
    | nil => intro _ _; simp
    | cons a r ih =>
      intro hs hof
      have hs' := List.pairwise_cons.1 hs
      obtain ⟨g1, g2⟩ := ih hs'.2 (fun p hp => hof p (by simp [hp]))
      by_cases ha : Lx.cmp a.key key < 0
      · have e : pos (a :: r) key = pos r key + 1 := by unfold pos; rw [List.filter_cons, if_pos (by simpa using ha), List.length_cons]
        rw [e, List.take_succ_cons, List.drop_succ_cons]
        exact ⟨fun p hp => by rcases List.mem_cons.1 hp with rfl | hp; exact ha; exact g1 p hp, g2⟩
      · have hr : ∀ p ∈ r, ¬ Lx.cmp p.key key < 0 := by
          intro p hp h
          have := hs'.1 p hp
          rw [Hm.cmp_of_eq ((hof a (by simp)).trans (hof p (by simp [hp])).symm)] at this
          exact ha (Lx.cmp_trans this h)
        have e : pos (a :: r) key = 0 := by
          unfold pos
          rw [List.filter_eq_nil_iff.2 (fun p hp => by
            rcases List.mem_cons.1 hp with rfl | hp
            · simpa using ha
            · have := hr p hp; simpa using this)]
          rfl
        rw [e]
        refine ⟨by simp, ?_⟩
        intro p hp
        rw [List.drop_zero] at hp
        rcases List.mem_cons.1 hp with rfl | hp
        · exact ha
        · exact hr p hp
  obtain ⟨g1, g2⟩ := h m hs hof
  refine ⟨List.length_filter_le _ _, g1, g2, ?_⟩
  intro p hp
  obtain ⟨j, hj, rfl⟩ := List.getElem_of_mem hp
  rw [List.length_drop] at hj
  rw [List.getElem_drop]
  have hlt : pos m key < m.length := by omega
  have h0 := g2 m[pos m key] (by have h9 : m[pos m key] ∈ m[pos m key] :: m.drop (pos m key + 1) := List.mem_cons_self; rwa [← List.drop_eq_getElem_cons hlt] at h9)
  have h1 := srt_mono hs hof (show pos m key < pos m key + 1 + j by omega) (List.getElem?_eq_getElem hlt) (List.getElem?_eq_getElem (by omega))
  rcases Int.lt_trichotomy (Lx.cmp m[pos m key + 1 + j].key key) 0 with h2 | h2 | h2
  · exact absurd (Lx.cmp_trans h1 h2) h0
  · rw [Lx.cmp_eq h2] at h1; exact absurd h1 h0
  · exact h2
theorem fnd_iff {m : List Pr} {i : Nat} {key : List UInt8} : fnd m i key = true ↔ ∃ p, m[i]? = some p ∧ p.key = key := by
  unfold fnd
  cases m[i]? with
  | none => simp
  | some p =>
    simp only [beq_iff_eq, Option.some.injEq, exists_eq_left']
    exact ⟨Lx.cmp_eq, fun h => by rw [h]; exact Lx.cmp_self _⟩
theorem ins_found [Inhabited LoT] {n : Nat} {m : List Pr} {of : List UInt8} {x : Pr} (hs : Hm.Srt n m) (hof : ∀ p ∈ m, Dg.key n p.key = of) (hx : Dg.key n x.key = of) (hf : fnd m (pos m x.key) x.key = true) : Hm.ins n x m = m.take (pos m x.key) ++ ([x] ++ m.drop (pos m x.key + 1)) := by
  have sp := spot (key := x.key) hs hof
  obtain ⟨p, hp, hk⟩ := fnd_iff.1 hf
  obtain ⟨hl, hpe⟩ := List.getElem?_eq_some_iff.1 hp
  have e : m = m.take (pos m x.key) ++ ([p] ++ m.drop (pos m x.key + 1)) := by
    conv => lhs; rw [← List.take_append_drop (pos m x.key) m, List.drop_eq_getElem_cons hl, hpe]
    rfl
  have hc : ∀ q ∈ m, Hm.cmp n q x = Lx.cmp q.key x.key := fun q hq => Hm.cmp_of_eq ((hof q hq).trans hx.symm)
  conv => lhs; rw [e]
  rw [Hm.ins_of_sides]
  · rfl
  · intro q hq; rw [hc q (List.mem_of_mem_take hq)]; exact sp.lo q hq
  · intro q hq; rw [List.mem_singleton] at hq; subst hq; rw [Hm.cmp_same hk]
  · intro q hq; rw [hc q (List.mem_of_mem_drop hq)]; exact sp.up q hq
theorem ins_new [Inhabited LoT] {n : Nat} {m : List Pr} {of : List UInt8} {x : Pr} (hs : Hm.Srt n m) (hof : ∀ p ∈ m, Dg.key n p.key = of) (hx : Dg.key n x.key = of) (hf : fnd m (pos m x.key) x.key = false) : Hm.ins n x m = m.take (pos m x.key) ++ ([x] ++ m.drop (pos m x.key)) := by
  have sp := spot (key := x.key) hs hof
  have hc : ∀ q ∈ m, Hm.cmp n q x = Lx.cmp q.key x.key := fun q hq => Hm.cmp_of_eq ((hof q hq).trans hx.symm)
  have e : m = m.take (pos m x.key) ++ ([] ++ m.drop (pos m x.key)) := by rw [List.nil_append, List.take_append_drop]
  conv => lhs; rw [e]
  rw [Hm.ins_of_sides]
  · rfl
  · intro q hq; rw [hc q (List.mem_of_mem_take hq)]; exact sp.lo q hq
  · intro q hq; cases hq
  · intro q hq
    rw [hc q (List.mem_of_mem_drop hq)]
    obtain ⟨j, hj, rfl⟩ := List.getElem_of_mem hq
    rw [List.length_drop] at hj
    cases j with
    | zero =>
      have h0 := sp.hi _ hq
      rcases Int.lt_trichotomy (Lx.cmp (m.drop (pos m x.key))[0].key x.key) 0 with h2 | h2 | h2
      · exact absurd h2 h0
      · exfalso
        have : fnd m (pos m x.key) x.key = true := fnd_iff.2 ⟨_, List.getElem?_eq_getElem (by omega), by have := Lx.cmp_eq h2; rwa [List.getElem_drop] at this⟩
        rw [hf] at this; cases this
      · exact h2
    | succ j =>
      refine sp.up _ ?_
      rw [List.getElem_drop]
      have : m[pos m x.key + (j + 1)]'(by omega) = (m.drop (pos m x.key + 1))[j]'(by rw [List.length_drop]; omega) := by
        rw [List.getElem_drop]; congr 1; omega
      rw [this]
      exact List.getElem_mem _
end Go.Proofs.YtpnakfeafekneaaGreatDoor

namespace Go.Proofs.YtpnakfeafekneaaGreatDoor
open Go.RowKit
@[go_sem] theorem as_bk_bk (p : Nat) (w : World) : (Instr.typeAssert (nbk p) 157 160 true).run Tryz.prog w = .ok (.tuple #[ptr p, .bool true]) w := by kernel_rfl
@[go_sem] theorem as_br_bk (p : Nat) (w : World) : (Instr.typeAssert (nbr p) 157 160 true).run Tryz.prog w = .ok (.tuple #[.pointer none, .bool false]) w := by kernel_rfl
@[go_sem] theorem as_br_br (p : Nat) (w : World) : (Instr.typeAssert (nbr p) 157 167 true).run Tryz.prog w = .ok (.tuple #[ptr p, .bool true]) w := by kernel_rfl
@[go_sem] theorem as_nil_bk (w : World) : (Instr.typeAssert .nilIface 157 160 true).run Tryz.prog w = .ok (.tuple #[.pointer none, .bool false]) w := by kernel_rfl
@[go_sem] theorem as_nil_br (w : World) : (Instr.typeAssert .nilIface 157 167 true).run Tryz.prog w = .ok (.tuple #[.pointer none, .bool false]) w := by kernel_rfl
/-- The pair that is put, and its key's digest, in the call's own boxes. -/
structure Boxes (w w1 : World) (of : List UInt8) (xc : List Value) : Prop where
  of : Blk w1 w.heap.size 40 (of.map b8)
  xc : Blk w1 (w.heap.size + 1) 166 xc
  bl : Below w.heap.size w w1
theorem Boxes.new (w : World) (of : List UInt8) (xc : List Value) : Boxes w ((w.alloc (.cells (of.map b8).toArray 40)).alloc (.cells xc.toArray 166)) of xc := by
  have h := Blk.new (w.alloc (.cells (of.map b8).toArray 40)) 166 xc
  rw [show (w.alloc (.cells (of.map b8).toArray 40)).heap.size = w.heap.size + 1 by simp] at h
  exact ⟨(Blk.new w _ _).alloc _, h, gro (below_box _ _) (below_box _ _)⟩
theorem Boxes.grown {w w1 w2 : World} {of : List UInt8} {xc : List Value} (h : Boxes w w1 of xc) (hb : Below w1.heap.size w1 w2) : Boxes w w2 of xc := ⟨h.of.grown hb, h.xc.grown hb, gro h.bl hb⟩
theorem pairs_box [Inhabited LoT] {w : World} {xc : List Value} {x : Pr} (h : PairAt w xc x) : Rd (w.alloc (.cells [xc].flatten.toArray 166)) (some ⟨w.heap.size, 0, none⟩) [xc].flatten := Rd.of _ (Blk.new w _ _).whole
set_option maxRecDepth 100000 in
theorem put_bk_diff [Inhabited LoT] {S : Nat → Prop} (b n : Nat) (h1 : 1 ≤ n) (h2 : n ≤ 32) (f t pa : Nat) (hft : f + t = 2 * n) (m : List Pr) (x : Pr) (ofa : List UInt8) (A : Option Addr) (c : Nat) (L : List (List Value)) (xc : List Value) (w : World) (hw : Words w) (hm : MapW w b n) (ha : BkAt w n pa m ofa A c L) (hx : PairAt w xc x) (hs : Hm.Srt n m) (hne : ofa ≠ Dg.key n x.key)
    (hpre : ∀ i, i < t → Dg.digit ofa i = Dg.digit (Dg.key n x.key) i) (hxs : x.key.length ≤ 64 ∧ x.val.length ≤ 256) (hS : ∀ k, w.heap.size ≤ k → S k) :
    Calls Tryz.prog 116 #[ptr b, nbk pa, .int .i64 t, dg (Dg.key n x.key), .agg xc.toArray] w fun e w' => ∃ T p, e = .returned (ifp T p) ∧ Below w.heap.size w w' ∧ HtAt S w' n f t (ifp T p) (Hm.ins n x m) := by
  have hkl := Dg.sum_length n (Dg.keyIn x.key) h2
  have hklen : (Dg.key n x.key).length = 32 := hkl
  generalize hK : Dg.key n x.key = K at hne hpre hklen
  have HK := hid hK
  have HL := hid (show (K.map b8).length = 32 by simp [hklen])
  have HLa := hid (show (ofa.map b8).length = 32 by simp [ha.len])
  have hneq := run_neq_bytes (P := Tryz.prog) Tryz.underlying40 Tryz.underlying5 (by kernel_rfl) ofa K ha.len hklen
  rw [show (!decide (ofa = K)) = true by simp [hne]] at hneq
  have hxl := hx.len
  obtain ⟨B1, d1, B2, d2, hxe, hx2⟩ := hx
  have hx : PairAt w xc x := ⟨B1, d1, B2, d2, hxe, hx2⟩
  have HA := hid (And.intro hw (And.intro hm (And.intro ha (And.intro hx (And.intro hs (And.intro hne (And.intro hpre hxs)))))))
  have HX := hid (And.intro hxl (show ∀ y ∈ [xc], y.length = 2 from fun y hy => by rw [List.mem_singleton] at hy; subst hy; exact hxl))
  clear hw hm ha hx hs hne hpre hxs hK hkl hx2 hxl
  have hbx := Boxes.new w K xc
  have HBX := hid hbx
  clear hbx
  subst hxe
  go_enter Tryz.func116, Tryz.ntmps116
  go_upto_region 1 with fail
  refine wp_world (fun w' => Boxes w w' K _) HBX.out ?_
  rintro w1 hb1
  have HB := hid hb1
  clear hb1 HBX
  go_upto_region 4 with fail
  have hq1 := range_fut (HB.out.of.whole)
  have hq2 := range_fut (range_grown (bk_of HA.out.2.2.1.blk) HB.out.bl)
  have HQ := hid (And.intro hq1 hq2)
  clear hq1 hq2
  refine wp_region_fut (by kernel_rfl) (by kernel_rfl) ?_
  repeat (first
    | (go_big_quiet_want; (with_reducible refine quiet_ld 40 (.tmp 25) pa 0 _ 32 _ HLa.out HQ.out.2 Tryz.underlying40 rfl (by kernel_rfl) ?_ ?_ ?_); rfl; rfl; simp only [Act.put, List.setIfInBounds_toArray, List.set_cons_zero, List.set_cons_succ]; go_big_quiet_on)
    | (go_big_quiet_want; (with_reducible refine quiet_ld 40 (.tmp 8) w.heap.size 0 _ 32 _ HL.out HQ.out.1 Tryz.underlying40 rfl (by kernel_rfl) ?_ ?_ ?_); rfl; rfl; simp only [Act.put, List.setIfInBounds_toArray, List.set_cons_zero, List.set_cons_succ]; go_big_quiet_on)
    | go_big_quiet_step (fail))
  refine wpQuiet_nil ?_
  rintro _ ⟨s, rfl⟩
  have hb2 := HB.out.grown s.below
  have hr1 := hb2.of.whole
  have hr2 := hb2.xc.whole
  have hbx2 := below_box s.v (.cells #[.slice B1 x.key.length d1, .slice B2 x.val.length d2] 166)
  have hxs2 := HA.out.2.2.2.1.grown hb2.bl
  have hpour := pour_any b n h1 h2 K hklen (some ⟨s.v.heap.size, 0, none⟩) 1 [[.slice B1 x.key.length d1, .slice B2 x.val.length d2]] [x] (s.v.alloc (.cells #[.slice B1 x.key.length d1, .slice B2 x.val.length d2] 166)) (HA.out.1.below (gro hb2.bl hbx2)) (HA.out.2.1.grown (gro hb2.bl hbx2)) (pairs_box hxs2) (PairsAt.one (hxs2.grown hbx2)) ⟨by simp, fun p hp => by rw [List.mem_singleton] at hp; subst hp; exact HA.out.2.2.2.2.2.2.2⟩
  have HC := hid (And.intro hb2 (And.intro hpour (And.intro hbx2 hxs2)))
  clear hb2 HQ hneq hpour hbx2 hxs2
  go_wp2_with (first
    | ((with_reducible refine ld_mid 40 (.tmp 8) w.heap.size 0 _ 32 _ HL.out hr1 Tryz.underlying40 rfl (by kernel_rfl) ?_ ?_ ?_ ?_); rfl; rfl; rfl)
    | ((with_reducible refine ld_mid 166 (.tmp 9) (w.heap.size + 1) 0 _ 2 _ HX.out.1 hr2 Tryz.underlying166 rfl (by kernel_rfl) ?_ ?_ ?_ ?_); rfl; rfl; rfl)
    | ((with_reducible refine bs_own 110 166 1 #[(0, .tmp 34)] [[.slice B1 x.key.length d1, .slice B2 x.val.length d2]] 2 (by decide) HX.out.2 rfl (by decide) (by decide) Tryz.underlying110 (by kernel_rfl) ?_ ?_ ?_ ?_); rfl; rfl; rfl)
    | (go_at_call 161
       refine HC.out.2.1.mono ?_
       rintro e w5 ⟨pb, rfl, hb5, hk5⟩
       have hbk : BkAt w5 n pb [x] K (some ⟨s.v.heap.size, 0, none⟩) 1 [[.slice B1 x.key.length d1, .slice B2 x.val.length d2]] := ⟨hk5, (pairs_box HC.out.2.2.2).grown hb5, PairsAt.one ((HC.out.2.2.2.grown HC.out.2.2.1).grown hb5), Nat.le_refl _, fun p hp => by rw [List.mem_singleton] at hp; subst hp; exact HK.out, hklen, by simp, (Blk.tyd (Blk.new s.v _ _)).grown hb5⟩
       have hbl5 := gro HC.out.1.bl (gro HC.out.2.2.1 hb5)
       have hjn := hjoin_any b n h1 h2 m x ofa K HA.out.2.2.2.2.1 HA.out.2.2.2.2.2.1 f t pa pb A _ c _ L _ w5 hft (fun k hk => hS k (Nat.le_trans hbl5.size hk)) HA.out.2.2.2.2.2.2.1 (HA.out.2.2.1.grown hbl5) hbk (HA.out.1.below hbl5) (HA.out.2.1.grown hbl5)
       have HV := hid (And.intro hbl5 hjn); clear hb5 hk5 hbk hbl5 hjn)
    | (go_at_call 160
       refine HV.out.2.mono ?_
       rintro e w6 ⟨T6, p6, rfl, hb6, hh6⟩
       have HZ := hid (And.intro hb6 hh6); clear hb6 hh6))
  go_ret
  exact ⟨T6, p6, rfl, gro HV.out.1 HZ.out.1, HZ.out.2⟩

theorem splice_take {α : Type} (cur y : List α) (o k : Nat) (h1 : o + y.length ≤ k) (h2 : k ≤ cur.length) : (splice cur o y).take k = (cur.take k).take o ++ (y ++ (cur.take k).drop (o + y.length)) := by
  have e : (cur.take k).take o ++ (y ++ (cur.take k).drop (o + y.length)) = splice (cur.take k) o y := by unfold splice; rfl
  rw [e]
  apply List.ext_getElem?
  intro i
  rw [List.getElem?_take, splice_get _ _ _ (by omega), splice_get _ _ _ (by rw [List.length_take]; omega), List.getElem?_take]
  by_cases hi : i < k
  · rw [if_pos hi, if_pos hi]
  · rw [if_neg hi, if_neg hi, if_neg (by omega), if_neg (by omega)]
/-- A bucket that pour has made. -/
theorem bk_poured [Inhabited LoT] {w w' : World} {n b' : Nat} {m : List Pr} {of : List UInt8} {A : Option Addr} {c : Nat} {L : List (List Value)} (hb : Blk w' b' 164 (bkCells of (.slice A m.length c) (Dg.bucket n m))) (hg : Below w.heap.size w w') (hr : Rd w A L.flatten) (hp : PairsAt w L m) (hc : m.length ≤ c) (hk : ∀ p ∈ m, Dg.key n p.key = of) (hl : of.length = 32) (hne : m ≠ []) (hty : Tyd w 166 A) : Bk w' n (nbk b') m :=
  ⟨b', of, A, c, L, rfl, hb, hr.grown hg, hp.grown hg, hc, hk, hl, hne, hty.grown hg⟩
set_option maxHeartbeats 1000000 in
set_option maxRecDepth 100000 in
theorem put_bk_found [Inhabited LoT] (b n : Nat) (h1 : 1 ≤ n) (h2 : n ≤ 32) (t pa : Nat) (m : List Pr) (x : Pr) (A : Option Addr) (c : Nat) (L : List (List Value)) (xc : List Value) (w : World) (hw : Words w) (hm : MapW w b n) (ha : BkAt w n pa m (Dg.key n x.key) A c L) (hx : PairAt w xc x) (hs : Hm.Srt n m) (hbd : Bnd m)
    (hxs : x.key.length ≤ 64 ∧ x.val.length ≤ 256) (hf : fnd m (pos m x.key) x.key = true) :
    Calls Tryz.prog 116 #[ptr b, nbk pa, .int .i64 t, dg (Dg.key n x.key), .agg xc.toArray] w fun e w' => ∃ p, e = .returned (nbk p) ∧ Below w.heap.size w w' ∧ Bk w' n (nbk p) (Hm.ins n x m) := by
  have hin := ins_found hs ha.key rfl hf
  have hsp := spot (key := x.key) hs ha.key
  have hplt : pos m x.key < m.length := by obtain ⟨p, hp, _⟩ := fnd_iff.1 hf; exact (List.getElem?_eq_some_iff.1 hp).1
  have hkey := ha.key
  have hklen : (Dg.key n x.key).length = 32 := ha.len
  have hcf := fun w' (hb : Below w.heap.size w w') Ak ck (hk : Rd w' Ak (x.key.map b8)) => find_at n A Ak c ck L m (Dg.key n x.key) x.key w' (ha.rd.grown hb) (ha.at_.grown hb) hk hbd hs ha.key
  rw [hf] at hcf
  generalize hK : Dg.key n x.key = K at ha hcf hklen hkey
  have HK := hid hK
  generalize hpo : pos m x.key = po at hin hsp hplt hcf
  have HL := hid (show (K.map b8).length = 32 by simp [hklen])
  have hneq := run_neq_bytes (P := Tryz.prog) Tryz.underlying40 Tryz.underlying5 (by kernel_rfl) K K hklen hklen
  rw [show (!decide (K = K)) = false by simp] at hneq
  have hxl := hx.len
  obtain ⟨B1, d1, B2, d2, hxe, hx2⟩ := hx
  have hx : PairAt w xc x := ⟨B1, d1, B2, d2, hxe, hx2⟩
  have HA := hid (And.intro hw (And.intro hm (And.intro ha (And.intro hx (And.intro hs (And.intro hbd (And.intro hxs (And.intro hin (And.intro hkey hx2)))))))))
  have HX := hid (And.intro hxl hcf)
  have h0 : 0 < m.length := by omega
  have hml := hbd.1
  clear hw hm ha hx hs hxs hK hx2 hxl hcf hbd hin hsp hkey hf hpo
  have hbx := Boxes.new w K xc
  have HBX := hid hbx
  clear hbx
  subst hxe
  go_enter Tryz.func116, Tryz.ntmps116
  go_upto_region 1 with fail
  refine wp_world (fun w' => Boxes w w' K _) HBX.out ?_
  rintro w1 hb1
  have HB := hid hb1
  clear hb1 HBX
  go_upto_region 4 with fail
  have hq1 := range_fut (HB.out.of.whole)
  have hq2 := range_fut (range_grown (bk_of HA.out.2.2.1.blk) HB.out.bl)
  have HQ := hid (And.intro hq1 hq2)
  clear hq1 hq2
  refine wp_region_fut (by kernel_rfl) (by kernel_rfl) ?_
  repeat (first
    | (go_big_quiet_want; (with_reducible refine quiet_ld 40 (.tmp 25) pa 0 _ 32 _ HL.out HQ.out.2 Tryz.underlying40 rfl (by kernel_rfl) ?_ ?_ ?_); rfl; rfl; simp only [Act.put, List.setIfInBounds_toArray, List.set_cons_zero, List.set_cons_succ]; go_big_quiet_on)
    | (go_big_quiet_want; (with_reducible refine quiet_ld 40 (.tmp 8) w.heap.size 0 _ 32 _ HL.out HQ.out.1 Tryz.underlying40 rfl (by kernel_rfl) ?_ ?_ ?_); rfl; rfl; simp only [Act.put, List.setIfInBounds_toArray, List.set_cons_zero, List.set_cons_succ]; go_big_quiet_on)
    | go_big_quiet_step (fail))
  refine wpQuiet_nil ?_
  rintro _ ⟨s, rfl⟩
  have hb2 := HB.out.grown s.below
  have HC := hid hb2
  clear hb2 HQ hneq
  go_upto_region 6 with fail
  have q1 := Fut.cell (show s.v.cell? ⟨pa, 32, none⟩ = some (.slice A m.length c) from bk_slice (HA.out.2.2.1.blk.grown HC.out.bl) hklen)
  have q2 := Fut.cell (show s.v.cell? ⟨w.heap.size + 1, 0, none⟩ = some (.slice B1 x.key.length d1) from by rw [HC.out.xc.cell]; rfl)
  have hcf : ∀ s2 : Fut s.v, Calls Tryz.prog 94 #[.slice A m.length c, .slice B1 x.key.length d1] s2.v fun e w'' => e = .returned (.tuple #[.int .i64 po, .bool true]) ∧ ∃ s' : Fut s.v, w'' = s'.v := fun s2 => Calls.fut_of (HX.out.2 s2.v (gro HC.out.bl s2.below) B1 d1 ((HA.out.2.2.2.2.2.2.2.2.2.1.grown HC.out.bl).grown s2.below))
  have HQ := hid hcf
  clear hcf
  refine wp_region_fut (by kernel_rfl) (by kernel_rfl) ?_
  repeat (go_big_quiet_step (with_reducible exact HQ.out _))
  refine wpQuiet_nil ?_
  rintro _ ⟨s2, rfl⟩
  clear q1 q2 HQ
  have hb3 := HC.out.grown s2.below
  have k32 : s2.v.cell? ⟨pa, 32, none⟩ = some (.slice A m.length c) := bk_slice (HA.out.2.2.1.blk.grown hb3.bl) hklen
  have hcl := clone_pairs A m.length c L.flatten s2.v HA.out.2.2.1.at_.flat (HA.out.2.2.1.rd.grown hb3.bl) HA.out.2.2.1.at_.oc (by omega)
  have hpi : (0 : Int) ≤ (po : Int) ∧ (po : Int) < (m.length : Int) := by omega
  have hlen : (Hm.ins n x m).length = m.length := by rw [HA.out.2.2.2.2.2.2.2.1]; simp; omega
  have HD := hid (And.intro hb3 (And.intro hcl hlen))
  clear hb3 hcl hlen HB HC
  go_wp2_with (first
    | ((with_reducible refine ld_mid 40 (.tmp 8) w.heap.size 0 _ 32 _ HL.out hr1 Tryz.underlying40 rfl (by kernel_rfl) ?_ ?_ ?_ ?_); rfl; rfl; rfl)
    | ((with_reducible refine ld_mid 166 (.tmp 9) (w.heap.size + 1) 0 _ 2 _ HX.out.1 hr2 Tryz.underlying166 rfl (by kernel_rfl) ?_ ?_ ?_ ?_); rfl; rfl; rfl)
    | ((with_reducible refine st_mid 166 (.tmp 57) (.tmp 56) g5 (po * 2) [.slice B1 x.key.length d1, .slice B2 x.val.length d2] 2 HX.out.1 ht5 (by kernel_rfl) HY.out.2.2 ?_ ?_ ?_ ?_ ?_); rfl; rfl; rfl; rfl)
    | (go_at_call 162
       refine HD.out.2.1.mono ?_
       rintro e w5 ⟨v5, rfl, hb5, ho5, -⟩
       obtain ⟨g5, c5, cur5, rfl, hm5⟩ := mine_own ho5 h0
       have hb6 := HD.out.1.grown hb5
       have hr2 := hb6.xc.whole
       have hm5l := hm5.len
       have hm5c := hm5.hc
       have ht5 : w5.there g5 (po * 2) 2 := hm5.blk.there _ _ (by omega)
       have hkp : Kept (· = g5) w5 (w5.setCells g5 (po * 2) [.slice B1 x.key.length d1, .slice B2 x.val.length d2]) := (Kept.refl _ _).setN _ _
       have hg5 := hm5.hB
       have hz2 := HD.out.1.xc.lt
       have hr1 := (hkp.blk hb6.of (by omega)).whole
       have hbf : Below w.heap.size w (w5.setCells g5 (po * 2) [.slice B1 x.key.length d1, .slice B2 x.val.length d2]) := below_setCells _ (by omega) _ _ _ hb6.bl
       have hbs := hm5.blk.setCells [Value.slice B1 x.key.length d1, .slice B2 x.val.length d2] (po * 2) _ (by simp only [List.length_cons, List.length_nil]; omega)
       have hxc := HA.out.2.2.2.1.grown hbf
       have hpat : PairsAt (w5.setCells g5 (po * 2) [.slice B1 x.key.length d1, .slice B2 x.val.length d2]) (L.take po ++ ([[Value.slice B1 x.key.length d1, Value.slice B2 x.val.length d2]] ++ L.drop (po + 1))) (Hm.ins n x m) := by
         rw [HA.out.2.2.2.2.2.2.2.1]
         exact ((HA.out.2.2.1.at_.grown hbf).take _).append ((PairsAt.one hxc).append ((HA.out.2.2.1.at_.grown hbf).drop _))
       have hrd : Rd (w5.setCells g5 (po * 2) [.slice B1 x.key.length d1, .slice B2 x.val.length d2]) (some ⟨g5, 0, none⟩) (L.take po ++ ([[Value.slice B1 x.key.length d1, Value.slice B2 x.val.length d2]] ++ L.drop (po + 1))).flatten := by
         have e1 := splice_take cur5 [Value.slice B1 x.key.length d1, Value.slice B2 x.val.length d2] (po * 2) (m.length * 2) (by simp only [List.length_cons, List.length_nil]; omega) (by omega)
         rw [hm5.hx, flatten_take 2 _ _ HA.out.2.2.1.at_.two, show po * 2 + [Value.slice B1 x.key.length d1, Value.slice B2 x.val.length d2].length = (po + 1) * 2 by simp only [List.length_cons, List.length_nil]; omega, flatten_drop 2 _ _ HA.out.2.2.1.at_.two] at e1
         have e2 : (L.take po ++ ([[Value.slice B1 x.key.length d1, Value.slice B2 x.val.length d2]] ++ L.drop (po + 1))).flatten = (L.take po).flatten ++ ([Value.slice B1 x.key.length d1, Value.slice B2 x.val.length d2] ++ (L.drop (po + 1)).flatten) := by simp
         rw [e2, ← e1]
         exact Rd.of _ (hbs.takes _)
       have hbd : Bnd (Hm.ins n x m) := ⟨by rw [HD.out.2.2]; exact hml, fun p hp => by
         rcases Hm.mem_ins hp with rfl | hp
         · exact HA.out.2.2.2.2.2.2.1
         · exact HA.out.2.2.2.2.2.1.2 p hp⟩
       have hpour := pour_any b n h1 h2 K hklen (some ⟨g5, 0, none⟩) c5 _ (Hm.ins n x m) _ (HA.out.1.below hbf) (HA.out.2.1.grown hbf) hrd hpat hbd
       rw [HD.out.2.2] at hpour
       have HY := hid (And.intro hpour (And.intro hbf hxc.oc))
       have HY2 := hid (And.intro hrd (And.intro hpat (And.intro hm5c (hbs.tyd (o := 0)))))
       clear hb6 hm5l hm5c hkp hg5 hz2 hbf hbs hxc hpat hrd hbd hpour hm5 ho5 hb5)
    | (go_at_call 161
       refine HY.out.1.mono ?_
       rintro e w7 ⟨pb, rfl, hb7, hk7⟩
       have HZ := hid (And.intro hb7 hk7); clear hb7 hk7))
  go_ret
  refine ⟨pb, rfl, gro HY.out.2.1 HZ.out.1, bk_poured (by rw [HD.out.2.2]; exact HZ.out.2) HZ.out.1 HY2.out.1 HY2.out.2.1 (by rw [HD.out.2.2]; exact HY2.out.2.2.1) ?_ hklen ?_ HY2.out.2.2.2⟩
  · intro p hp
    rcases Hm.mem_ins hp with rfl | hp
    · exact HK.out
    · exact HA.out.2.2.2.2.2.2.2.2.1 p hp
  · intro e
    have := Hm.x_mem_ins n x m
    rw [e] at this; cases this
end Go.Proofs.YtpnakfeafekneaaGreatDoor

namespace Go.Proofs.YtpnakfeafekneaaGreatDoor
open Go.RowKit
set_option maxHeartbeats 1000000 in
set_option maxRecDepth 100000 in
theorem put_bk_new [Inhabited LoT] (b n : Nat) (h1 : 1 ≤ n) (h2 : n ≤ 32) (t pa : Nat) (m : List Pr) (x : Pr) (A : Option Addr) (c : Nat) (L : List (List Value)) (xc : List Value) (w : World) (hw : Words w) (hm : MapW w b n) (ha : BkAt w n pa m (Dg.key n x.key) A c L) (hx : PairAt w xc x) (hs : Hm.Srt n m) (hbd : Bnd m)
    (hxs : x.key.length ≤ 64 ∧ x.val.length ≤ 256) (hf : fnd m (pos m x.key) x.key = false) (hml1 : m.length + 1 < 1048576) :
    Calls Tryz.prog 116 #[ptr b, nbk pa, .int .i64 t, dg (Dg.key n x.key), .agg xc.toArray] w fun e w' => ∃ p, e = .returned (nbk p) ∧ Below w.heap.size w w' ∧ Bk w' n (nbk p) (Hm.ins n x m) := by
  have hin := ins_new hs ha.key rfl hf
  have hsp := spot (key := x.key) hs ha.key
  have hplt : pos m x.key ≤ m.length := hsp.le
  have hkey := ha.key
  have hklen : (Dg.key n x.key).length = 32 := ha.len
  have hcf := fun w' (hb : Below w.heap.size w w') Ak ck (hk : Rd w' Ak (x.key.map b8)) => find_at n A Ak c ck L m (Dg.key n x.key) x.key w' (ha.rd.grown hb) (ha.at_.grown hb) hk hbd hs ha.key
  rw [hf] at hcf
  generalize hK : Dg.key n x.key = K at ha hcf hklen hkey
  have HK := hid hK
  generalize hpo : pos m x.key = po at hin hsp hplt hcf
  have HL := hid (show (K.map b8).length = 32 by simp [hklen])
  have hneq := run_neq_bytes (P := Tryz.prog) Tryz.underlying40 Tryz.underlying5 (by kernel_rfl) K K hklen hklen
  rw [show (!decide (K = K)) = false by simp] at hneq
  have hxl := hx.len
  obtain ⟨B1, d1, B2, d2, hxe, hx2⟩ := hx
  have hx : PairAt w xc x := ⟨B1, d1, B2, d2, hxe, hx2⟩
  have HA := hid (And.intro hw (And.intro hm (And.intro ha (And.intro hx (And.intro hs (And.intro hbd (And.intro hxs (And.intro hin (And.intro hkey hx2)))))))))
  have HX := hid (And.intro hxl hcf)
  have HX2 := hid (show ∀ y ∈ [xc], y.length = 2 from fun y hy => by rw [List.mem_singleton] at hy; subst hy; exact hxl)
  have h0 : 0 < m.length := List.length_pos_iff.2 ha.ne
  have hml := hbd.1
  clear hw hm ha hx hs hxs hK hx2 hxl hcf hbd hin hsp hkey hf hpo
  have hbx := Boxes.new w K xc
  have HBX := hid hbx
  clear hbx
  subst hxe
  go_enter Tryz.func116, Tryz.ntmps116
  go_upto_region 1 with fail
  refine wp_world (fun w' => Boxes w w' K _) HBX.out ?_
  rintro w1 hb1
  have HB := hid hb1
  clear hb1 HBX
  go_upto_region 4 with fail
  have hq1 := range_fut (HB.out.of.whole)
  have hq2 := range_fut (range_grown (bk_of HA.out.2.2.1.blk) HB.out.bl)
  have HQ := hid (And.intro hq1 hq2)
  clear hq1 hq2
  refine wp_region_fut (by kernel_rfl) (by kernel_rfl) ?_
  repeat (first
    | (go_big_quiet_want; (with_reducible refine quiet_ld 40 (.tmp 25) pa 0 _ 32 _ HL.out HQ.out.2 Tryz.underlying40 rfl (by kernel_rfl) ?_ ?_ ?_); rfl; rfl; simp only [Act.put, List.setIfInBounds_toArray, List.set_cons_zero, List.set_cons_succ]; go_big_quiet_on)
    | (go_big_quiet_want; (with_reducible refine quiet_ld 40 (.tmp 8) w.heap.size 0 _ 32 _ HL.out HQ.out.1 Tryz.underlying40 rfl (by kernel_rfl) ?_ ?_ ?_); rfl; rfl; simp only [Act.put, List.setIfInBounds_toArray, List.set_cons_zero, List.set_cons_succ]; go_big_quiet_on)
    | go_big_quiet_step (fail))
  refine wpQuiet_nil ?_
  rintro _ ⟨s, rfl⟩
  have hb2 := HB.out.grown s.below
  have HC := hid hb2
  clear hb2 HQ hneq
  go_upto_region 6 with fail
  have q1 := Fut.cell (show s.v.cell? ⟨pa, 32, none⟩ = some (.slice A m.length c) from bk_slice (HA.out.2.2.1.blk.grown HC.out.bl) hklen)
  have q2 := Fut.cell (show s.v.cell? ⟨w.heap.size + 1, 0, none⟩ = some (.slice B1 x.key.length d1) from by rw [HC.out.xc.cell]; rfl)
  have hcf : ∀ s2 : Fut s.v, Calls Tryz.prog 94 #[.slice A m.length c, .slice B1 x.key.length d1] s2.v fun e w'' => e = .returned (.tuple #[.int .i64 po, .bool false]) ∧ ∃ s' : Fut s.v, w'' = s'.v := fun s2 => Calls.fut_of (HX.out.2 s2.v (gro HC.out.bl s2.below) B1 d1 ((HA.out.2.2.2.2.2.2.2.2.2.1.grown HC.out.bl).grown s2.below))
  have HQ := hid hcf
  clear hcf
  refine wp_region_fut (by kernel_rfl) (by kernel_rfl) ?_
  repeat (go_big_quiet_step (with_reducible exact HQ.out _))
  refine wpQuiet_nil ?_
  rintro _ ⟨s2, rfl⟩
  clear q1 q2 HQ
  have hb3 := HC.out.grown s2.below
  have k32 : s2.v.cell? ⟨pa, 32, none⟩ = some (.slice A m.length c) := bk_slice (HA.out.2.2.1.blk.grown hb3.bl) hklen
  have hcl := clone_pairs A m.length c L.flatten s2.v HA.out.2.2.1.at_.flat (HA.out.2.2.1.rd.grown hb3.bl) HA.out.2.2.1.at_.oc (by omega)
  have hpi : (0 : Int) ≤ (po : Int) ∧ (po : Int) ≤ (m.length : Int) := by omega
  have hlen : (Hm.ins n x m).length = m.length + 1 := by rw [HA.out.2.2.2.2.2.2.2.1]; simp; omega
  have HD := hid (And.intro hb3 (And.intro hcl hlen))
  clear hb3 hcl hlen HB HC
  go_wp2_with (first
    | ((with_reducible refine ld_mid 40 (.tmp 8) w.heap.size 0 _ 32 _ HL.out hr1 Tryz.underlying40 rfl (by kernel_rfl) ?_ ?_ ?_ ?_); rfl; rfl; rfl)
    | ((with_reducible refine ld_mid 166 (.tmp 9) (w.heap.size + 1) 0 _ 2 _ HX.out.1 hr2 Tryz.underlying166 rfl (by kernel_rfl) ?_ ?_ ?_ ?_); rfl; rfl; rfl)
    | ((with_reducible refine bs_own 110 166 1 #[(0, .tmp 60)] [[.slice B1 x.key.length d1, .slice B2 x.val.length d2]] 2 (by decide) HX2.out rfl (by decide) (by decide) Tryz.underlying110 (by kernel_rfl) ?_ ?_ ?_ ?_); rfl; rfl; rfl)
    | (go_at_call 162
       refine HD.out.2.1.mono ?_
       rintro e w5 ⟨v5, rfl, hb5, ho5, -⟩
       have hb6 := HD.out.1.grown hb5
       have hr2 := hb6.xc.whole
       have hbx := below_box w5 (.cells #[.slice B1 x.key.length d1, .slice B2 x.val.length d2] 166)
       have hxc := HA.out.2.2.2.1.grown hb6.bl
       have hic := insert_pairs s2.v.heap.size m.length po w5.heap.size v5 L.flatten [.slice B1 x.key.length d1, .slice B2 x.val.length d2] _ (own_grown ho5 hbx) (Blk.new w5 _ _) rfl hxc.oc HA.out.2.2.1.at_.oc hml h0 hplt (fun e => by have := (ho5.lt _ e).2; omega) (Nat.le_trans hb5.size hbx.size)
       have HY := hid (And.intro hic (And.intro (hb6.grown hbx) hb5.size))
       clear hb6 hbx hxc hic ho5 hb5)
    | (go_at_call 163
       refine HY.out.1.mono ?_
       rintro e w7 ⟨A7, c7, rfl, hb7, hrd7, hc7, -, -, hty7⟩
       have hz2 := HD.out.1.xc.lt
       have hr1 := (HY.out.2.1.of.below hb7 (by omega)).whole
       have hbf : Below w.heap.size w w7 := HY.out.2.1.bl.trans (hb7.mono HD.out.1.bl.size)
       have hxc := HA.out.2.2.2.1.grown hbf
       have hpat : PairsAt w7 (L.take po ++ ([[Value.slice B1 x.key.length d1, Value.slice B2 x.val.length d2]] ++ L.drop po)) (Hm.ins n x m) := by
         rw [HA.out.2.2.2.2.2.2.2.1]
         exact ((HA.out.2.2.1.at_.grown hbf).take _).append ((PairsAt.one hxc).append ((HA.out.2.2.1.at_.grown hbf).drop _))
       have hrd : Rd w7 A7 (L.take po ++ ([[Value.slice B1 x.key.length d1, Value.slice B2 x.val.length d2]] ++ L.drop po)).flatten := by
         rw [flatten_take 2 _ _ HA.out.2.2.1.at_.two, flatten_drop 2 _ _ HA.out.2.2.1.at_.two] at hrd7
         have e2 : (L.take po ++ ([[Value.slice B1 x.key.length d1, Value.slice B2 x.val.length d2]] ++ L.drop po)).flatten = (L.take po).flatten ++ ([Value.slice B1 x.key.length d1, Value.slice B2 x.val.length d2] ++ (L.drop po).flatten) := by simp
         rw [e2]
         exact hrd7
       have hbd : Bnd (Hm.ins n x m) := ⟨by rw [HD.out.2.2]; exact hml1, fun p hp => by
         rcases Hm.mem_ins hp with rfl | hp
         · exact HA.out.2.2.2.2.2.2.1
         · exact HA.out.2.2.2.2.2.1.2 p hp⟩
       have hpour := pour_any b n h1 h2 K hklen A7 c7 _ (Hm.ins n x m) _ (HA.out.1.below hbf) (HA.out.2.1.grown hbf) hrd hpat hbd
       rw [HD.out.2.2] at hpour
       have HZ := hid (And.intro hpour (And.intro hbf (And.intro hrd (And.intro hpat (And.intro hc7 hty7)))))
       clear hz2 hbf hxc hpat hrd hbd hpour hc7 hb7 hrd7 hty7)
    | (go_at_call 161
       refine HZ.out.1.mono ?_
       rintro e w8 ⟨pb, rfl, hb8, hk8⟩
       have HW := hid (And.intro hb8 hk8); clear hb8 hk8))
  go_ret
  refine ⟨pb, rfl, gro HZ.out.2.1 HW.out.1, bk_poured (by rw [HD.out.2.2]; exact HW.out.2) HW.out.1 HZ.out.2.2.1 HZ.out.2.2.2.1 (by rw [HD.out.2.2]; exact HZ.out.2.2.2.2.1) ?_ hklen ?_ HZ.out.2.2.2.2.2⟩
  · intro p hp
    rcases Hm.mem_ins hp with rfl | hp
    · exact HK.out
    · exact HA.out.2.2.2.2.2.2.2.2.1 p hp
  · intro e
    have := Hm.x_mem_ins n x m
    rw [e] at this; cases this
end Go.Proofs.YtpnakfeafekneaaGreatDoor
