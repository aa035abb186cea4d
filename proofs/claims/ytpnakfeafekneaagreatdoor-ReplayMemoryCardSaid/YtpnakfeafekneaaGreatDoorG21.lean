/- Part 21 of this proof: P1, P2, P3, VF, VG, VH. -/
import Derived.Test.YtpnakfeafekneaaGreatDoorG14
import Derived.Test.YtpnakfeafekneaaGreatDoorG20
set_option linter.unusedSimpArgs false
set_option linter.unusedVariables false
namespace Go.Proofs.YtpnakfeafekneaaGreatDoor
open Go.RowKit
abbrev nbk (b : Nat) : Value := .iface 160 (ptr b)
abbrev nbr (b : Nat) : Value := .iface 167 (ptr b)
def bkCells (of : List UInt8) (s : Value) (d : List UInt8) : List Value := of.map b8 ++ ([s] ++ d.map b8)
def brCells (m : Nat) (s : Value) (d : List UInt8) (z : Int) : List Value := [.int .u16 m, s] ++ (d.map b8 ++ [.int .i64 z])
structure BkAt [Inhabited LoT] (w : World) (n b : Nat) (m : List Pr) (of : List UInt8) (A : Option Addr) (c : Nat) (L : List (List Value)) : Prop where
  blk : Blk w b 164 (bkCells of (.slice A m.length c) (Dg.bucket n m))
  rd : Rd w A L.flatten
  at_ : PairsAt w L m
  cap : m.length ≤ c
  key : ∀ p ∈ m, Dg.key n p.key = of
  len : of.length = 32
  ne : m ≠ []
  ty : Tyd w 166 A
def Bk [Inhabited LoT] (w : World) (n : Nat) (v : Value) (m : List Pr) : Prop := ∃ b of A c L, v = nbk b ∧ BkAt w n b m of A c L
def HtAt [Inhabited LoT] (S : Nat → Prop) (w : World) (n : Nat) : Nat → Nat → Value → List Pr → Prop
  | 0, _, v, m => Bk w n v m
  | f + 1, t, v, m => (Hm.single n m = true ∧ Bk w n v m) ∨ (Hm.single n m = false ∧ ∃ (b : Nat) (A : Option Addr) (c : Nat) (z : Int) (val : Nat → Value), v = nbr b ∧
      Blk w b 171 (brCells (Hm.bm n t m) (.slice A (Hm.digs n t m).length c) (Hm.node n (f + 1) t m) z) ∧ Rd w A ((Hm.digs n t m).map val) ∧ (Hm.digs n t m).length ≤ c ∧ ((∀ a, A = some a → S a.block) ∧ Tyd w 157 A) ∧
      ∀ i ∈ Hm.digs n t m, HtAt S w n f (t + 1) (val i) (Hm.child n t i m))
theorem BkAt.grown [Inhabited LoT] {w w' : World} {n b : Nat} {m : List Pr} {of : List UInt8} {A : Option Addr} {c : Nat} {L : List (List Value)} (h : BkAt w n b m of A c L) (hb : Below w.heap.size w w') : BkAt w' n b m of A c L :=
  ⟨h.blk.grown hb, h.rd.grown hb, h.at_.grown hb, h.cap, h.key, h.len, h.ne, h.ty.grown hb⟩
theorem Bk.grown [Inhabited LoT] {w w' : World} {n : Nat} {v : Value} {m : List Pr} (h : Bk w n v m) (hb : Below w.heap.size w w') : Bk w' n v m := by
  obtain ⟨b, of, A, c, L, e, h⟩ := h
  exact ⟨b, of, A, c, L, e, h.grown hb⟩
theorem HtAt.grown [Inhabited LoT] {S : Nat → Prop} {w w' : World} {n : Nat} (hb : Below w.heap.size w w') : ∀ {f t : Nat} {v : Value} {m : List Pr}, HtAt S w n f t v m → HtAt S w' n f t v m
  | 0, _, _, _, h => Bk.grown h hb
  | f + 1, t, v, m, h => by
    rcases h with ⟨h1, h2⟩ | ⟨h1, b, A, c, z, val, e, h2, h3, h4, h6, h5⟩
    · exact .inl ⟨h1, h2.grown hb⟩
    · exact .inr ⟨h1, b, A, c, z, val, e, h2.grown hb, h3.grown hb, h4, ⟨h6.1, h6.2.grown hb⟩, fun i hi => HtAt.grown hb (h5 i hi)⟩
theorem HtAt.ne [Inhabited LoT] {S : Nat → Prop} {w : World} {n : Nat} : ∀ {f t : Nat} {v : Value} {m : List Pr}, HtAt S w n f t v m → m ≠ []
  | 0, _, _, _, ⟨_, _, _, _, _, _, h⟩ => h.ne
  | f + 1, t, v, m, h => by
    rcases h with ⟨_, _, _, _, _, _, _, h⟩ | ⟨h1, _⟩
    · exact h.ne
    · intro e; subst e; simp [Hm.single] at h1
theorem Bk.ht [Inhabited LoT] {S : Nat → Prop} {w : World} {n : Nat} {v : Value} {m : List Pr} (h : Bk w n v m) : ∀ f t, HtAt S w n f t v m
  | 0, _ => h
  | f + 1, t => .inl ⟨by
    obtain ⟨b, of, A, c, L, e, h⟩ := h
    exact Hm.single_iff.2 fun p hp q hq => (h.key p hp).trans (h.key q hq).symm, h⟩
theorem HtAt.mono [Inhabited LoT] {S S' : Nat → Prop} {w : World} {n : Nat} (hS : ∀ k, S k → S' k) : ∀ {f t : Nat} {v : Value} {m : List Pr}, HtAt S w n f t v m → HtAt S' w n f t v m
  | 0, _, _, _, h => h
  | f + 1, t, v, m, h => by
    rcases h with h | ⟨h1, b, A, c, z, val, e, h2, h3, h4, h6, h5⟩
    · exact .inl h
    · exact .inr ⟨h1, b, A, c, z, val, e, h2, h3, h4, ⟨fun a ha => hS _ (h6.1 a ha), h6.2⟩, fun i hi => HtAt.mono hS (h5 i hi)⟩
theorem Rd.write {w : World} {g r : Nat} {T : TypeId} {q : Nat} {u : Value} (hc : w.cell? ⟨g, r, none⟩ = some (.iface T (ptr q))) {A : Option Addr} {cs : List Value} (h : Rd w A cs) (hn : ∀ v ∈ cs, v ≠ .iface T (ptr q)) : Rd (w.setCell ⟨g, r, none⟩ u) A cs := fun he => by
  obtain ⟨g', o', e, hr⟩ := h he
  refine ⟨g', o', e, fun j v hj => ?_⟩
  have h1 := hr j v hj
  by_cases hg : (⟨g', o' + j, none⟩ : Addr) = ⟨g, r, none⟩
  · rw [hg, hc] at h1
    exact absurd (Option.some.inj h1).symm (hn v (List.mem_of_getElem? hj))
  · rw [World.cell?_setCell_other _ _ _ _ (fun e => hg e.symm)]; exact h1
theorem PairAt.write [Inhabited LoT] {w : World} {g r : Nat} {T : TypeId} {q : Nat} {u : Value} (hc : w.cell? ⟨g, r, none⟩ = some (.iface T (ptr q))) {x : List Value} {p : Pr} (h : PairAt w x p) : PairAt (w.setCell ⟨g, r, none⟩ u) x p := by
  obtain ⟨A1, c1, A2, c2, e, h1, h2, h3, h4, h5, h6⟩ := h
  refine ⟨A1, c1, A2, c2, e, h1.write hc ?_, h2.write hc ?_, h3, h4, h5.set _ _, h6.set _ _⟩
  · intro v hv; obtain ⟨y, _, rfl⟩ := List.mem_map.1 hv; simp [b8]
  · intro v hv; obtain ⟨y, _, rfl⟩ := List.mem_map.1 hv; simp [b8]
theorem PairsAt.write [Inhabited LoT] {w : World} {g r : Nat} {T : TypeId} {q : Nat} {u : Value} (hc : w.cell? ⟨g, r, none⟩ = some (.iface T (ptr q))) {L : List (List Value)} {m : List Pr} (h : PairsAt w L m) : PairsAt (w.setCell ⟨g, r, none⟩ u) L m := ⟨h.len, fun i x p h1 h2 => (h.at_ i x p h1 h2).write hc⟩
theorem PairsAt.slices [Inhabited LoT] {w : World} {L : List (List Value)} {m : List Pr} (h : PairsAt w L m) : ∀ v ∈ L.flatten, ∃ A n c, v = .slice A n c := by
  intro v hv
  obtain ⟨x, hx, hv⟩ := List.mem_flatten.1 hv
  obtain ⟨i, hi, rfl⟩ := List.getElem_of_mem hx
  have hm : i < m.length := by have := h.len; omega
  obtain ⟨A1, c1, A2, c2, e, _⟩ := h.at_ i L[i] m[i] (by simp [hi]) (by simp [hm])
  rw [e] at hv
  rcases List.mem_cons.1 hv with rfl | hv
  · exact ⟨_, _, _, rfl⟩
  · rw [List.mem_singleton] at hv; subst hv; exact ⟨_, _, _, rfl⟩
theorem Blk.ne_type {w : World} {g k : Nat} {t t' : TypeId} {cs ds : List Value} (h : Blk w g t cs) (hk : Blk w k t' ds) (hne : t ≠ t') : k ≠ g := by
  rintro rfl
  unfold Blk at h hk
  rw [h] at hk
  injection hk with hk
  injection hk with _ ht
  exact hne ht
theorem Bk.write [Inhabited LoT] {w : World} {n g r : Nat} {T : TypeId} {q : Nat} {u : Value} {cur : List Value} (hg : Blk w g 157 cur) (hc : w.cell? ⟨g, r, none⟩ = some (.iface T (ptr q))) {v : Value} {m : List Pr} (h : Bk w n v m) : Bk (w.setCell ⟨g, r, none⟩ u) n v m := by
  obtain ⟨b, of, A, c, L, e, h⟩ := h
  refine ⟨b, of, A, c, L, e, h.blk.far (p := ⟨g, r, none⟩) (hg.ne_type h.blk (by decide)) u, h.rd.write hc ?_, h.at_.write hc, h.cap, h.key, h.len, h.ne, h.ty.set _ _⟩
  intro v hv
  obtain ⟨A', n', c', rfl⟩ := h.at_.slices v hv
  simp
theorem HtAt.write [Inhabited LoT] {S : Nat → Prop} {w : World} {n g r : Nat} {T : TypeId} {q : Nat} {u : Value} {cur : List Value} (hg : Blk w g 157 cur) (hc : w.cell? ⟨g, r, none⟩ = some (.iface T (ptr q))) (hS : ¬ S g) :
    ∀ {f t : Nat} {v : Value} {m : List Pr}, HtAt S w n f t v m → HtAt S (w.setCell ⟨g, r, none⟩ u) n f t v m
  | 0, _, _, _, h => Bk.write hg hc h
  | f + 1, t, v, m, h => by
    rcases h with ⟨h1, h2⟩ | ⟨h1, b, A, c, z, val, e, h2, h3, h4, h6, h5⟩
    · exact .inl ⟨h1, h2.write hg hc⟩
    · refine .inr ⟨h1, b, A, c, z, val, e, h2.far (p := ⟨g, r, none⟩) (hg.ne_type h2 (by decide)) u, ?_, h4, ⟨h6.1, h6.2.set _ _⟩, fun i hi => HtAt.write hg hc hS (h5 i hi)⟩
      intro he
      obtain ⟨g', o', e', hr⟩ := h3 he
      refine ⟨g', o', e', fun j v hj => ?_⟩
      have hne : g' ≠ g := by rintro rfl; exact hS (h6.1 _ e')
      rw [World.cell?_setCell_other _ _ _ _ (by intro e; cases e; exact hne rfl)]
      exact hr j v hj
def SumAt (w : World) (v : Value) (d : List UInt8) : Prop := d.length = 32 ∧ ((∃ b of s, v = nbk b ∧ of.length = 32 ∧ Blk w b 164 (bkCells of s d) ∧ ∃ A k c, s = .slice A k c) ∨ (∃ b bm s z, v = nbr b ∧ Blk w b 171 (brCells bm s d z)))
theorem SumAt.grown {w w' : World} {v : Value} {d : List UInt8} (h : SumAt w v d) (hb : Below w.heap.size w w') : SumAt w' v d := by
  obtain ⟨h0, h⟩ := h
  refine ⟨h0, ?_⟩
  rcases h with ⟨b, of, s, e, h1, h2, h3⟩ | ⟨b, bm, s, z, e, h1⟩
  · exact .inl ⟨b, of, s, e, h1, h2.grown hb, h3⟩
  · exact .inr ⟨b, bm, s, z, e, h1.grown hb⟩
theorem node_len (n : Nat) (h2 : n ≤ 32) (f t : Nat) (m : List Pr) : (Hm.node n f t m).length = 32 := by
  cases f with
  | zero => exact Dg.sum_length _ _ h2
  | succ f =>
    rw [Hm.node]
    split
    · exact Dg.sum_length _ _ h2
    · exact Dg.sum_length _ _ h2
theorem node_form (n : Nat) (h2 : n ≤ 32) (f t : Nat) (m : List Pr) : Dg.form n (Hm.node n f t m) = true := by
  cases f with
  | zero => exact Dg.form_sum _ _ h2
  | succ f =>
    rw [Hm.node]
    split
    · exact Dg.form_sum _ _ h2
    · exact Dg.form_sum _ _ h2
theorem Bk.sumAt [Inhabited LoT] {w : World} {n : Nat} {v : Value} {m : List Pr} (h : Bk w n v m) (h2 : n ≤ 32) : SumAt w v (Dg.bucket n m) := by
  obtain ⟨b, of, A, c, L, e, h⟩ := h
  exact ⟨Dg.sum_length _ _ h2, .inl ⟨b, of, _, e, h.len, h.blk, _, _, _, rfl⟩⟩
theorem HtAt.sumAt [Inhabited LoT] {S : Nat → Prop} {w : World} {n : Nat} (h2 : n ≤ 32) : ∀ {f t : Nat} {v : Value} {m : List Pr}, HtAt S w n f t v m → SumAt w v (Hm.node n f t m)
  | 0, _, _, _, h => Bk.sumAt h h2
  | f + 1, t, v, m, h => by
    rcases h with ⟨h1, h3⟩ | ⟨h1, b, A, c, z, val, e, h3, _⟩
    · rw [Hm.node_single h1]; exact h3.sumAt h2
    · exact ⟨node_len n h2 _ _ _, .inr ⟨b, _, _, z, e, h3⟩⟩
theorem bk_of {of : List UInt8} {s : Value} {d : List UInt8} {w : World} {b : Nat} {t : TypeId} (h : Blk w b t (bkCells of s d)) : w.rangeAt b 0 (of.map b8) := by
  have := h.range [] (of.map b8) ([s] ++ d.map b8) rfl
  simpa using this
theorem bk_slice {of : List UInt8} {s : Value} {d : List UInt8} {w : World} {b : Nat} {t : TypeId} (h : Blk w b t (bkCells of s d)) (hl : of.length = 32) : w.cell? ⟨b, 32, none⟩ = some s := by
  rw [h.cell]; unfold bkCells; rw [List.getElem?_append_right (by simp [hl])]; simp [hl]
theorem bk_sum {of : List UInt8} {s : Value} {d : List UInt8} {w : World} {b : Nat} {t : TypeId} (h : Blk w b t (bkCells of s d)) (hl : of.length = 32) : w.rangeAt b 33 (d.map b8) := by
  have := h.range (of.map b8 ++ [s]) (d.map b8) [] (by simp [bkCells])
  simpa [hl] using this
theorem br_bm {m : Nat} {s : Value} {d : List UInt8} {z : Int} {w : World} {b : Nat} {t : TypeId} (h : Blk w b t (brCells m s d z)) : w.cell? ⟨b, 0, none⟩ = some (.int .u16 m) := by rw [h.cell]; rfl
theorem br_slice {m : Nat} {s : Value} {d : List UInt8} {z : Int} {w : World} {b : Nat} {t : TypeId} (h : Blk w b t (brCells m s d z)) : w.cell? ⟨b, 1, none⟩ = some s := by rw [h.cell]; rfl
theorem br_sum {m : Nat} {s : Value} {d : List UInt8} {z : Int} {w : World} {b : Nat} {t : TypeId} (h : Blk w b t (brCells m s d z)) : w.rangeAt b 2 (d.map b8) := by
  have := h.range [.int .u16 m, s] (d.map b8) [.int .i64 z] rfl
  simpa using this
theorem br_n {m : Nat} {s : Value} {d : List UInt8} {z : Int} {w : World} {b : Nat} {t : TypeId} (h : Blk w b t (brCells m s d z)) (hl : d.length = 32) : w.cell? ⟨b, 34, none⟩ = some (.int .i64 z) := by
  rw [h.cell]; unfold brCells
  rw [List.getElem?_append_right (by simp), List.getElem?_append_right (by simp [hl])]
  simp [hl]
set_option maxRecDepth 100000 in
theorem bksum_any [Inhabited LoT] (b : Nat) (of : List UInt8) (s : Value) (d : List UInt8) (w : World) (hl : of.length = 32) (hd : d.length = 32) (h : Blk w b 164 (bkCells of s d)) :
    Calls Tryz.prog 243 #[ptr b] w fun e w' => e = .returned (dg d) ∧ Below w.heap.size w w' := by
  have HL := hid (show (d.map b8).length = 32 by simp [hd])
  have HB := hid h
  clear h
  go_enter Tryz.func243, Tryz.ntmps243
  go_upto_region 1 with fail
  refine wp_world (fun w' => Res w w') (Res.new w) ?_
  rintro w1 hr
  have hr2 : w1.rangeAt b 33 (d.map b8) := range_below (bk_sum HB.out hl) hr.bl HB.out.lt
  have ht := hr.there (Below.refl _ _)
  have HR := hid hr
  clear hr
  go_wp2_with (first
    | ((with_reducible refine ld_mid 40 (.tmp 5) b 33 _ 32 _ HL.out hr2 Tryz.underlying40 rfl (by kernel_rfl) ?_ ?_ ?_ ?_); rfl; rfl; rfl)
    | ((with_reducible refine st_mid 40 (.tmp 2) (.tmp 6) w.heap.size 0 (d.map b8) 32 HL.out ht (by kernel_rfl) (one_b8 _) ?_ ?_ ?_ ?_ ?_); rfl; rfl; rfl; rfl))
  exact rt_cell w.heap.size 0 _ 32 _ HL.out (World.rangeAt_setCells_same _ _ _ _ (by rw [HL.out]; exact ht)) Tryz.underlying40 rfl (by kernel_rfl) rfl rfl rfl ⟨rfl, below_setCells _ (Nat.le_refl _) _ _ _ HR.out.bl⟩
set_option maxRecDepth 100000 in
theorem brsum_any [Inhabited LoT] (b bm : Nat) (s : Value) (d : List UInt8) (z : Int) (w : World) (hd : d.length = 32) (h : Blk w b 171 (brCells bm s d z)) :
    Calls Tryz.prog 245 #[ptr b] w fun e w' => e = .returned (dg d) ∧ Below w.heap.size w w' := by
  have HL := hid (show (d.map b8).length = 32 by simp [hd])
  have HB := hid h
  clear h
  go_enter Tryz.func245, Tryz.ntmps245
  go_upto_region 1 with fail
  refine wp_world (fun w' => Res w w') (Res.new w) ?_
  rintro w1 hr
  have hr2 : w1.rangeAt b 2 (d.map b8) := range_below (br_sum HB.out) hr.bl HB.out.lt
  have ht := hr.there (Below.refl _ _)
  have HR := hid hr
  clear hr
  go_wp2_with (first
    | ((with_reducible refine ld_mid 40 (.tmp 5) b 2 _ 32 _ HL.out hr2 Tryz.underlying40 rfl (by kernel_rfl) ?_ ?_ ?_ ?_); rfl; rfl; rfl)
    | ((with_reducible refine st_mid 40 (.tmp 2) (.tmp 6) w.heap.size 0 (d.map b8) 32 HL.out ht (by kernel_rfl) (one_b8 _) ?_ ?_ ?_ ?_ ?_); rfl; rfl; rfl; rfl))
  exact rt_cell w.heap.size 0 _ 32 _ HL.out (World.rangeAt_setCells_same _ _ _ _ (by rw [HL.out]; exact ht)) Tryz.underlying40 rfl (by kernel_rfl) rfl rfl rfl ⟨rfl, below_setCells _ (Nat.le_refl _) _ _ _ HR.out.bl⟩
theorem bkcount_any [Inhabited LoT] (b : Nat) (of : List UInt8) (A : Option Addr) (k c : Nat) (d : List UInt8) (w : World) (hl : of.length = 32) (h : Blk w b 164 (bkCells of (.slice A k c) d)) :
    Calls Tryz.prog 242 #[ptr b] w fun e w' => e = .returned (.int .i64 k) ∧ w = w' := by
  have c0 := bk_slice h hl
  clear h
  go_enter Tryz.func242, Tryz.ntmps242
  go_wp2_with fail
  go_ret
  exact ⟨rfl, rfl⟩
theorem brcount_any [Inhabited LoT] (b bm : Nat) (s : Value) (d : List UInt8) (z : Int) (w : World) (hl : d.length = 32) (h : Blk w b 171 (brCells bm s d z)) :
    Calls Tryz.prog 244 #[ptr b] w fun e w' => e = .returned (.int .i64 z) ∧ w = w' := by
  have c0 := br_n h hl
  clear h
  go_enter Tryz.func244, Tryz.ntmps244
  go_wp2_with fail
  go_ret
  exact ⟨rfl, rfl⟩
def Bnd (m : List Pr) : Prop := m.length < 1048576 ∧ ∀ p ∈ m, p.key.length ≤ 64 ∧ p.val.length ≤ 256
theorem Bnd.size {m : List Pr} (h : Bnd m) : prSize m < 2199023255552 := by
  have g : ∀ l : List Pr, (∀ p ∈ l, p.key.length ≤ 64 ∧ p.val.length ≤ 256) → prSize l ≤ 400 * l.length := by
    intro l
    induction l with
    | nil => intro _; simp [prSize]
    | cons p r ih =>
      intro hp
      have h1 := ih (fun q hq => hp q (by simp [hq]))
      have h2 := hp p (by simp)
      unfold prSize at h1 ⊢
      rw [List.flatMap_cons, List.length_append, List.length_append, List.length_cons]
      have u1 := Wi.uvar_length 9 p.key.length (by omega)
      have u2 := Wi.uvar_length 9 p.val.length (by omega)
      have b1 : (Wi.blob p.key).length = (Wi.uvar p.key.length).length + p.key.length := by simp [Wi.blob]
      have b2 : (Wi.blob p.val).length = (Wi.uvar p.val.length).length + p.val.length := by simp [Wi.blob]
      omega
  have := g m h.2
  have := h.1
  omega
theorem Bnd.filter {m : List Pr} (h : Bnd m) (f : Pr → Bool) : Bnd (m.filter f) := ⟨Nat.lt_of_le_of_lt (List.length_filter_le _ _) h.1, fun p hp => h.2 p (List.mem_filter.1 hp).1⟩
theorem bk_fill (parts : List (Nat × Value)) : Tryz.prog.built 164 parts = Instr.fill ((#[(0, 32), (32, 1), (33, 32)] : Array (Nat × Nat))[·]?) (List.replicate 32 (b8 0) ++ ([Value.slice none 0 0] ++ List.replicate 32 (b8 0))).toArray parts := by kernel_rfl
theorem bk_built [Inhabited LoT] (of d : List UInt8) (A : Option Addr) (k c : Nat) (ho : of.length = 32) (hd : d.length = 32) : Tryz.prog.built 164 [(0, dg of), (1, .slice A k c), (2, dg d)] = some (bkCells of (.slice A k c) d).toArray := by
  have hO : (of.map b8).length = 32 := by simp [ho]
  have hD : (d.map b8).length = 32 := by simp [hd]
  rw [bk_fill, fill_step _ _ 0 _ _ 0 32 rfl (of.map b8) rfl hO (by simp), splice_head _ _ _ (by rw [hO]; simp),
    fill_step _ _ 1 _ _ 32 1 rfl [.slice A k c] rfl rfl (by simp [ho]), splice_tail _ _ _ _ (by omega), hO,
    show splice ([Value.slice none 0 0] ++ List.replicate 32 (b8 0)) (32 - 32) [.slice A k c] = [.slice A k c] ++ List.replicate 32 (b8 0) from splice_head _ _ _ rfl,
    fill_step _ _ 2 _ _ 33 32 rfl (d.map b8) rfl hD (by simp [ho]), splice_tail _ _ _ _ (by omega), hO]
  have : splice ([Value.slice A k c] ++ List.replicate 32 (b8 0)) (33 - 32) (d.map b8) = [.slice A k c] ++ d.map b8 := by
    rw [splice_tail _ _ _ _ (by simp)]
    congr 1
    exact splice_whole _ _ (by simp [hd])
  rw [this]
  rfl
set_option maxRecDepth 100000 in
theorem pour_any [Inhabited LoT] (b n : Nat) (h1 : 1 ≤ n) (h2 : n ≤ 32) (of : List UInt8) (ho : of.length = 32) (A : Option Addr) (c : Nat) (L : List (List Value)) (m : List Pr) (w : World) (hw : Words w) (hb : w.cell? ⟨b, 0, none⟩ = some (.int .i64 n)) (hA : Rd w A L.flatten) (hP : PairsAt w L m) (hs : Bnd m) :
    Calls Tryz.prog 161 #[ptr b, dg of, .slice A m.length c] w fun e w' => ∃ b', e = .returned (ptr b') ∧ Below w.heap.size w w' ∧ Blk w' b' 164 (bkCells of (.slice A m.length c) (Dg.bucket n m)) := by
  have HO := hid (show (of.map b8).length = 32 by simp [ho])
  have hd := Dg.sum_length n (Dg.bucketIn m) h2
  have HD := hid (show ((Dg.bucket n m).map b8).length = 32 by unfold Dg.bucket; simp [hd])
  have HF := hid (bk_built of (Dg.bucket n m) A m.length c ho hd)
  have HA := hid (And.intro hw (And.intro hA (And.intro hP (And.intro hs hb))))
  clear hw hA hP hs hd hb
  go_enter Tryz.func161, Tryz.ntmps161
  go_upto_region 1 with fail
  refine wp_world (fun w' => Blk w' w.heap.size 40 (of.map b8) ∧ Below w.heap.size w w') ⟨Blk.new w _ _, below_box _ _⟩ ?_
  rintro w1 ⟨hb1, hbl1⟩
  have k0 : w1.cell? ⟨b, 0, none⟩ = some (.int .i64 n) := by rw [hbl1.cell (p := ⟨b, 0, none⟩) (World.block_lt_of_cell? w _ HA.out.2.2.2.2)]; exact HA.out.2.2.2.2
  have HB := hid (And.intro hb1 hbl1)
  clear hb1 hbl1
  go_upto_region 2 with (first
    | (go_at_call 199
       refine (bucket_any n h1 h2 A c L m w1 (HA.out.1.below HB.out.2) (HA.out.2.1.grown HB.out.2) (HA.out.2.2.1.grown HB.out.2) HA.out.2.2.2.1.size (by have := HA.out.2.2.2.1.1; omega)).mono ?_
       rintro e w2 ⟨rfl, hb⟩
       have HV := hid hb; clear hb)
    | ((with_reducible refine st_new 40 (.tmp 7) (.tmp 16) _ _ ((Dg.bucket n m).map b8) 32 HD.out ?_ (by kernel_rfl) (one_b8 _) ?_ ?_ ?_ ?_ ?_); rfl; rfl; rfl; rfl; rfl))
  refine wp_world (fun w' => w'.rangeAt w.heap.size 0 (of.map b8) ∧ w'.rangeAt w2.heap.size 0 ((Dg.bucket n m).map b8) ∧ Below w.heap.size w w') ⟨((HB.out.1.grown HV.out).alloc _).whole, (Blk.new w2 _ _).whole, gro (gro HB.out.2 HV.out) (below_box _ _)⟩ ?_
  rintro w3 ⟨hr1, hr2, hb3⟩
  have HE := hid hb3
  clear hb3
  go_wp2_with (first
    | ((with_reducible refine ld_mid 40 (.tmp 4) w.heap.size 0 _ 32 _ HO.out hr1 Tryz.underlying40 rfl (by kernel_rfl) ?_ ?_ ?_ ?_); rfl; rfl; rfl)
    | ((with_reducible refine ld_mid 40 (.tmp 7) w2.heap.size 0 _ 32 _ HD.out hr2 Tryz.underlying40 rfl (by kernel_rfl) ?_ ?_ ?_ ?_); rfl; rfl; rfl)
    | ((with_reducible refine wl_build 164 #[(0, .tmp 18), (1, .tmp 19), (2, .tmp 20)] (bkCells of (.slice A m.length c) (Dg.bucket n m)) ?_ ?_ ?_ ?_); rfl; rfl; exact HF.out))
  go_ret
  exact ⟨_, rfl, gro HE.out (below_box _ _), Blk.new _ _ _⟩
end Go.Proofs.YtpnakfeafekneaaGreatDoor

namespace Go.Proofs.YtpnakfeafekneaaGreatDoor
open Go.RowKit
theorem info_dg : (Tryz.prog.info? 40).map (fun i => (i.zero, i.size, i.bytes)) = some (some (dg (List.replicate 32 0)), 32, 32) := by kernel_rfl
theorem made_dg (k : Nat) : madeCells (dg (List.replicate 32 0)).cells (k * 32) = (List.replicate (k * 32) (b8 0)).toArray := by
  apply Array.ext_getElem?
  intro i
  by_cases h : i < k * 32
  · have e : (madeCells (dg (List.replicate 32 0)).cells (k * 32))[i]? = some ((dg (List.replicate 32 0)).cells[i % 32]!) := by
      simp [madeCells, h, Value.cells]
    rw [e]
    have h2 : i % 32 < 32 := Nat.mod_lt _ (by decide)
    have e2 : (dg (List.replicate 32 0)).cells = (List.replicate 32 (b8 0)).toArray := by simp [Value.cells]
    have e3 : ∀ r, r < 32 → (List.replicate 32 (b8 0)).toArray[r]! = b8 0 := by
      intro r hr
      rw [getElem!_pos _ _ (by rw [List.size_toArray, List.length_replicate]; exact hr)]
      exact List.getElem_replicate _
    rw [e2, e3 _ h2, List.getElem?_toArray, List.getElem?_replicate, if_pos h]
  · rw [Array.getElem?_eq_none (by rw [size_madeCells]; omega), Array.getElem?_eq_none (by simp; omega)]
theorem make_dgs [Inhabited LoT] (k : Nat) (hk : k < 1048576) (w : World) : (Instr.makeSlice 105 (.int .i64 k) (.int .i64 k)).run Tryz.prog w = .ok (.slice (some ⟨w.heap.size, 0, none⟩) k k) (w.alloc (.cells (List.replicate (k * 32) (b8 0)).toArray 40)) := by
  obtain ⟨i, hi, hz, hsize, hby⟩ := info_parts info_dg
  have := run_make (P := Tryz.prog) w 105 40 i (dg (List.replicate 32 0)) Tryz.underlying105 hi hz .i64 .i64 k k (by omega) (by omega) (by rw [hby]; omega) (by omega)
  rw [this]
  simp only [Int.toNat_natCast, hsize, made_dg]
@[go_sem] theorem meth_bksum (b : Nat) (w : World) : (method 401 160 (ptr b) "notary/hamt.sum").run Tryz.prog w = .ok (243, ptr b) w := by kernel_rfl
@[go_sem] theorem meth_bkcount (b : Nat) (w : World) : (method 401 160 (ptr b) "notary/hamt.count").run Tryz.prog w = .ok (242, ptr b) w := by kernel_rfl
@[go_sem] theorem meth_brsum (b : Nat) (w : World) : (method 401 167 (ptr b) "notary/hamt.sum").run Tryz.prog w = .ok (245, ptr b) w := by kernel_rfl
@[go_sem] theorem meth_brcount (b : Nat) (w : World) : (method 401 167 (ptr b) "notary/hamt.count").run Tryz.prog w = .ok (244, ptr b) w := by kernel_rfl
def MapW (w : World) (b n : Nat) : Prop := w.cell? ⟨b, 0, none⟩ = some (.int .i64 n)
theorem MapW.grown {w w' : World} {b n : Nat} (h : MapW w b n) (hb : Below w.heap.size w w') : MapW w' b n := by
  unfold MapW at h ⊢
  rw [hb.cell (p := ⟨b, 0, none⟩) (World.block_lt_of_cell? w _ h)]; exact h
theorem dgs_take {ks : List (List UInt8)} {j : Nat} (h : j < ks.length) : (dgs (ks.take (j + 1))).flatten = (dgs (ks.take j)).flatten ++ ks[j].map b8 := by
  unfold dgs
  rw [List.take_succ_eq_append_getElem h, List.map_append, List.flatten_append]
  simp
theorem fork_cells [Inhabited LoT] {ks : List (List UInt8)} {j k : Nat} (hd : ∀ d ∈ ks, d.length = 32) (h : j < ks.length) (hk : j < k) :
    splice ((dgs (ks.take j)).flatten ++ List.replicate ((k - j) * 32) (b8 0)) (j * 32) (ks[j].map b8) = (dgs (ks.take (j + 1))).flatten ++ List.replicate ((k - (j + 1)) * 32) (b8 0) := by
  have e1 : (dgs (ks.take j)).flatten.length = j * 32 := by
    rw [flatten_size 32 _ (dgs_len fun d hd' => hd d (List.mem_of_mem_take hd'))]
    simp [dgs]; omega
  have e2 : (ks[j].map b8).length = 32 := by rw [List.length_map]; exact hd _ (List.getElem_mem h)
  rw [splice_tail _ _ _ _ (by omega), e1, Nat.sub_self, dgs_take h, List.append_assoc]
  congr 1
  rw [show (k - j) * 32 = 32 + (k - (j + 1)) * 32 by omega, ← List.replicate_append_replicate]
  exact splice_head _ _ _ (by rw [e2]; simp)
theorem fork_there {w : World} {g t : Nat} {ks : List (List UInt8)} {j k : Nat} (hd : ∀ d ∈ ks, d.length = 32) (h : j < ks.length) (hk : j < k) (hb : Blk w g t ((dgs (ks.take j)).flatten ++ List.replicate ((k - j) * 32) (b8 0))) : w.there g (j * 32) 32 := by
  have e1 : (dgs (ks.take j)).flatten.length = j * 32 := by
    rw [flatten_size 32 _ (dgs_len fun d hd' => hd d (List.mem_of_mem_take hd'))]
    simp [dgs]; omega
  exact hb.there _ _ (by rw [List.length_append, e1, List.length_replicate]; omega)
theorem br_fill (parts : List (Nat × Value)) : Tryz.prog.built 171 parts = Instr.fill ((#[(0, 1), (1, 1), (2, 32), (34, 1)] : Array (Nat × Nat))[·]?) ([Value.int .u16 0, Value.slice none 0 0] ++ (List.replicate 32 (b8 0) ++ [Value.int .i64 0])).toArray parts := by kernel_rfl
theorem br_built [Inhabited LoT] (bm : Nat) (d : List UInt8) (A : Option Addr) (k c : Nat) (z : Int) (hd : d.length = 32) : Tryz.prog.built 171 [(0, .int .u16 bm), (1, .slice A k c), (2, dg d), (3, .int .i64 z)] = some (brCells bm (.slice A k c) d z).toArray := by
  have hD : (d.map b8).length = 32 := by simp [hd]
  rw [br_fill, fill_step _ _ 0 _ _ 0 1 rfl [.int .u16 bm] rfl rfl (by simp), 
    show splice ([Value.int .u16 0, Value.slice none 0 0] ++ (List.replicate 32 (b8 0) ++ [Value.int .i64 0])) 0 [Value.int .u16 bm] = [Value.int .u16 bm, Value.slice none 0 0] ++ (List.replicate 32 (b8 0) ++ [Value.int .i64 0]) from rfl,
    fill_step _ _ 1 _ _ 1 1 rfl [.slice A k c] rfl rfl (by simp),
    show splice ([Value.int .u16 bm, Value.slice none 0 0] ++ (List.replicate 32 (b8 0) ++ [Value.int .i64 0])) 1 [Value.slice A k c] = [Value.int .u16 bm, .slice A k c] ++ (List.replicate 32 (b8 0) ++ [Value.int .i64 0]) from rfl,
    fill_step _ _ 2 _ _ 2 32 rfl (d.map b8) rfl hD (by simp), splice_tail _ _ _ _ (by simp),
    show splice (List.replicate 32 (b8 0) ++ [Value.int .i64 0]) (2 - [Value.int .u16 bm, Value.slice A k c].length) (d.map b8) = d.map b8 ++ [Value.int .i64 0] from splice_head _ _ _ (by simp [hd]),
    fill_step _ _ 3 _ _ 34 1 rfl [.int .i64 z] rfl rfl (by simp [hd]), splice_tail _ _ _ _ (by simp),
    show splice (d.map b8 ++ [Value.int .i64 0]) (34 - [Value.int .u16 bm, Value.slice A k c].length) [Value.int .i64 z] = d.map b8 ++ [Value.int .i64 z] from by rw [splice_tail _ _ _ _ (by simp [hd])]; simp [hd, splice]]
  rfl
set_option maxRecDepth 100000 in
theorem fork_any [Inhabited LoT] (b n : Nat) (h1 : 1 ≤ n) (h2 : n ≤ 32) (bm : Nat) (hm : bm < 65536) (A : Option Addr) (c : Nat) (vs : List Value) (ks : List (List UInt8)) (w : World) (hw : Words w) (hb : MapW w b n) (hl : vs.length = ks.length) (hA : Rd w A vs)
    (hs : ∀ (i : Nat) (v : Value) (d : List UInt8), vs[i]? = some v → ks[i]? = some d → SumAt w v d) (hf : Fits n ks) (hp : Nib.pop bm = ks.length) (hm0 : bm ≠ 0) (hk16 : ks.length ≤ 16) :
    Calls Tryz.prog 166 #[ptr b, .int .u16 bm, .slice A vs.length c] w fun e w' => ∃ (b' : Nat) (z : Int), e = .returned (ptr b') ∧ Below w.heap.size w w' ∧ Blk w' b' 171 (brCells bm (.slice A vs.length c) (Dg.branch n bm ks) z) := by
  have HA := hid (And.intro hw (And.intro hb (And.intro hl (And.intro hA (And.intro hs (And.intro hf hp))))))
  have hv16 : vs.length ≤ 16 := by omega
  clear hw hb hl hA hs hf hp
  have hmk := make_dgs vs.length (by omega)
  go_enter Tryz.func166, Tryz.ntmps166
  go_wp2_with fail
  clear hmk
  go_loopg [8, 18] vs.length (fun g s8 i wr => ∃ (j : Nat) (z : Int), j + g = vs.length ∧ i = .int .i64 j ∧ s8 = .int .i64 z ∧ Below w.heap.size w wr ∧ Blk wr w.heap.size 40 ((dgs (ks.take j)).flatten ++ List.replicate ((vs.length - j) * 32) (b8 0)))
  case atStart => exact ⟨0, 0, by omega, rfl, rfl, below_box _ _, by simpa [dgs] using Blk.new w 40 (List.replicate (vs.length * 32) (b8 0))⟩
  case round =>
    obtain ⟨j, z, hj, rfl, rfl, hbl, hblk⟩ := hrel
    have HI := hid (And.intro hbl hblk)
    clear hbl hblk
    by_cases hlt : j < vs.length
    · obtain ⟨g, o, rfl, hr⟩ := HA.out.2.2.2.1 (by intro e; rw [e] at hlt; simp at hlt)
      have c0 : wr.cell? ⟨g, o + j, none⟩ = some vs[j] := by
        have h := hr j vs[j] (by simp [hlt])
        rw [HI.out.1.cell (p := ⟨g, o + j, none⟩) (World.block_lt_of_cell? w _ h)]; exact h
      have hkl : j < ks.length := by have := HA.out.2.2.1; omega
      have hs := HA.out.2.2.2.2.1 j vs[j] ks[j] (by simp [hlt]) (by simp [hkl])
      have hd32 : ∀ d ∈ ks, d.length = 32 := fun d hd => (HA.out.2.2.2.2.2.1 d hd).1
      have HD := hid (And.intro hd32 (fork_cells (k := vs.length) hd32 hkl hlt))
      have HL := hid (show (ks[j].map b8).length = 32 by rw [List.length_map]; exact hs.1)
      obtain ⟨hd, hs⟩ := hs
      have hw1 : w.heap.size ≤ wr.heap.size := HI.out.1.size
      clear hd32
      rcases hs with ⟨nb, of, s, e, hol, hblk, A9, k9, c9, rfl⟩ | ⟨nb, bm9, s, z9, e, hblk⟩
      · rw [e] at c0
        have HK := hid (And.intro hol (And.intro hblk hd))
        clear hr e hol hblk hd
        go_wp2_with (first
          | (go_at_call 243
             refine (bksum_any nb of _ ks[j] wr HK.out.1 HK.out.2.2 (HK.out.2.1.below HI.out.1 HK.out.2.1.lt)).mono ?_
             rintro e w2 ⟨rfl, hb⟩
             have ht := fork_there HD.out.1 hkl hlt (HI.out.2.grown hb)
             have HV := hid hb; clear hb)
          | (go_at_call 242
             refine (bkcount_any nb of A9 k9 c9 ks[j] _ HK.out.1 (HK.out.2.1.below (below_setCells _ (Nat.le_refl _) _ _ _ (HI.out.1.trans (HV.out.mono hw1))) HK.out.2.1.lt)).mono ?_
             rintro e w3 ⟨rfl, rfl⟩)
          | ((with_reducible refine st_mid 40 (.tmp 27) (.tmp 26) w.heap.size (j * 32) (ks[j].map b8) 32 HL.out ht (by kernel_rfl) (one_b8 _) ?_ ?_ ?_ ?_ ?_); rfl; rfl; rfl; rfl))
        go_roundg (gk - 1)
        case measure => omega
        case rel =>
          refine ⟨j + 1, _, by omega, by go_num, rfl, below_setCells _ (Nat.le_refl _) _ _ _ (HI.out.1.trans (HV.out.mono hw1)), ?_⟩
          have := (HI.out.2.grown HV.out).setCells (ks[j].map b8) (j * 32) _ (by rw [HL.out, List.length_append, List.length_replicate, flatten_size 32 _ (dgs_len fun d hd' => HD.out.1 d (List.mem_of_mem_take hd'))]; simp [dgs]; omega)
          rw [HD.out.2] at this
          exact this
      · rw [e] at c0
        have HK := hid (And.intro hblk hd)
        clear hr e hblk hd
        go_wp2_with (first
          | (go_at_call 245
             refine (brsum_any nb bm9 s ks[j] z9 wr HK.out.2 (HK.out.1.below HI.out.1 HK.out.1.lt)).mono ?_
             rintro e w2 ⟨rfl, hb⟩
             have ht := fork_there HD.out.1 hkl hlt (HI.out.2.grown hb)
             have HV := hid hb; clear hb)
          | (go_at_call 244
             refine (brcount_any nb bm9 s ks[j] z9 _ HK.out.2 (HK.out.1.below (below_setCells _ (Nat.le_refl _) _ _ _ (HI.out.1.trans (HV.out.mono hw1))) HK.out.1.lt)).mono ?_
             rintro e w3 ⟨rfl, rfl⟩)
          | ((with_reducible refine st_mid 40 (.tmp 27) (.tmp 26) w.heap.size (j * 32) (ks[j].map b8) 32 HL.out ht (by kernel_rfl) (one_b8 _) ?_ ?_ ?_ ?_ ?_); rfl; rfl; rfl; rfl))
        go_roundg (gk - 1)
        case measure => omega
        case rel =>
          refine ⟨j + 1, _, by omega, by go_num, rfl, below_setCells _ (Nat.le_refl _) _ _ _ (HI.out.1.trans (HV.out.mono hw1)), ?_⟩
          have := (HI.out.2.grown HV.out).setCells (ks[j].map b8) (j * 32) _ (by rw [HL.out, List.length_append, List.length_replicate, flatten_size 32 _ (dgs_len fun d hd' => HD.out.1 d (List.mem_of_mem_take hd'))]; simp [dgs]; omega)
          rw [HD.out.2] at this
          exact this
    · have hj2 : j = ks.length := by have := HA.out.2.2.1; omega
      have hrd : Rd wr (some ⟨w.heap.size, 0, none⟩) (dgs ks).flatten := by
        have h := HI.out.2
        rw [show vs.length - j = 0 by omega, hj2, List.take_length] at h
        simp only [Nat.zero_mul, List.replicate_zero, List.append_nil] at h
        exact Rd.of _ h.whole
      have hsm := Dg.sum_length n (Dg.branchIn n bm ks) h2
      have HC := hid (show ((Dg.branch n bm ks).map b8).length = 32 by unfold Dg.branch; simp [hsm])
      have hwr := HI.out.1
      have hvl := HA.out.2.2.1
      have hcall := branch_ok n h1 h2 bm hm (some ⟨w.heap.size, 0, none⟩) vs.length ks wr (HA.out.1.below hwr) HA.out.2.2.2.2.2.1 hrd HA.out.2.2.2.2.2.2 hm0 hk16
      rw [← hvl] at hcall
      have k0 : wr.cell? ⟨b, 0, none⟩ = some (.int .i64 n) := HA.out.2.1.grown hwr
      have HF := hid (br_built bm (Dg.branch n bm ks) A vs.length c z (by unfold Dg.branch; exact hsm))
      have HX := hid hcall
      clear hj2 hrd hsm hwr hcall hvl
      go_upto_region 10 with (first
        | (go_at_call 204
           refine HX.out.mono ?_
           rintro e w2 ⟨rfl, hb⟩
           have HV := hid hb; clear hb)
        | ((with_reducible refine st_new 40 (.tmp 11) (.tmp 41) _ _ ((Dg.branch n bm ks).map b8) 32 HC.out ?_ (by kernel_rfl) (one_b8 _) ?_ ?_ ?_ ?_ ?_); rfl; rfl; rfl; rfl; rfl))
      refine wp_world (fun w' => w'.rangeAt w2.heap.size 0 ((Dg.branch n bm ks).map b8) ∧ Below w.heap.size w w') ⟨(Blk.new w2 _ _).whole, gro (gro HI.out.1 HV.out) (below_box _ _)⟩ ?_
      rintro w3 ⟨hr2, hb3⟩
      have HE := hid hb3
      clear hb3
      go_wp2_with (first
        | ((with_reducible refine ld_mid 40 (.tmp 11) w2.heap.size 0 _ 32 _ HC.out hr2 Tryz.underlying40 rfl (by kernel_rfl) ?_ ?_ ?_ ?_); rfl; rfl; rfl)
        | ((with_reducible refine wl_build 171 #[(0, .tmp 43), (1, .tmp 44), (2, .tmp 45), (3, .tmp 46)] (brCells bm (.slice A vs.length c) (Dg.branch n bm ks) z) ?_ ?_ ?_ ?_); rfl; rfl; exact HF.out))
      go_ret
      exact ⟨_, z, rfl, gro HE.out (below_box _ _), Blk.new _ _ _⟩
end Go.Proofs.YtpnakfeafekneaaGreatDoor

namespace Go.Proofs.YtpnakfeafekneaaGreatDoor
open Go.RowKit
set_option maxRecDepth 100000 in
theorem hdigit_ok [Inhabited LoT] (b n : Nat) (h1 : 1 ≤ n) (h2 : n ≤ 32) (d : List UInt8) (hd : d.length = 32) (hf : Dg.form n d = true) (i : Nat) (hi : i < 2 * n) (w : World) (hb : MapW w b n) :
    Calls Tryz.prog 96 #[ptr b, dg d, .int .i64 i] w fun e w' => e = .returned (.int .i64 (Dg.digit d i)) ∧ Below w.heap.size w w' := by
  have HL := hid (show (d.map b8).length = 32 by simp [hd])
  have HB := hid hb
  clear hb
  go_enter Tryz.func96, Tryz.ntmps96
  go_upto_region 1 with fail
  refine wp_world (fun w' => Blk w' w.heap.size 40 (d.map b8) ∧ Below w.heap.size w w' ∧ MapW w' b n) ⟨Blk.new w _ _, below_box _ _, HB.out.grown (below_box _ _)⟩ ?_
  rintro w1 ⟨hb1, hbl1, hm1⟩
  have q0 := Fut.cell (show w1.cell? ⟨b, 0, none⟩ = some (.int .i64 n) from hm1)
  have hcf : ∀ s : Fut w1, Calls Tryz.prog 89 #[.int .i64 n, dg d, .int .i64 i] s.v fun e w'' => e = .returned (.tuple #[.int .i64 (Dg.digit d i), .int .i64 0]) ∧ ∃ s' : Fut w1, w'' = s'.v := fun s => Calls.fut_of (at_ok n h1 h2 d hd hf i hi s.v)
  have HC := hid (And.intro hcf (And.intro hb1.whole hbl1))
  clear hcf hb1 hbl1 hm1
  refine wp_region_fut (by kernel_rfl) (by kernel_rfl) ?_
  repeat (first
    | (go_big_quiet_want; (with_reducible refine quiet_ld 40 (.tmp 4) w.heap.size 0 _ 32 _ HL.out (range_fut HC.out.2.1) Tryz.underlying40 rfl (by kernel_rfl) ?_ ?_ ?_); rfl; rfl; simp only [Act.put, List.setIfInBounds_toArray, List.set_cons_zero, List.set_cons_succ]; go_big_quiet_on)
    | go_big_quiet_step (with_reducible exact HC.out.1 _))
  refine wpQuiet_nil ?_
  rintro _ ⟨s, rfl⟩
  go_wp2_with fail
  go_ret
  exact ⟨rfl, HC.out.2.2.trans (s.below.mono HC.out.2.2.size)⟩
theorem tyd_setCells {t : TypeId} {A : Option Addr} : ∀ {w : World} (g o : Nat) (vs : List Value), Tyd w t A → Tyd (w.setCells g o vs) t A
  | _, _, _, [], h => h
  | _, g, o, v :: r, h => tyd_setCells g (o + 1) r (h.set _ _)
def NewSl (t : TypeId) (w : World) (n : Nat) (cs : List Value) (e : Ending) (w' : World) : Prop := ∃ A c, e = .returned (.slice A n c) ∧ Below w.heap.size w w' ∧ Rd w' A cs ∧ n ≤ c ∧ (∀ a, A = some a → w.heap.size ≤ a.block) ∧ Tyd w' t A
theorem NewRow.sl {w w' : World} {t : TypeId} {size n : Nat} {cs : List Value} {e : Ending} (h : NewRow w t size n cs e w') : NewSl t w n cs e w' := by
  obtain ⟨v, h1, h2, h3, -⟩ := h
  obtain ⟨A, c, rfl, h4, h5⟩ := rd_own h3
  refine ⟨A, c, h1, h2, h4, h5, fun a e => ?_, own_tyd h3⟩
  subst e
  exact (h3.lt a.block rfl).1
theorem clone_sl [Inhabited LoT] (A : Option Addr) (c : Nat) (l : List UInt8) (w : World) (h : Rd w A (l.map b8)) (hl : l.length < 1099511627776) :
    Calls Tryz.prog 95 #[.slice A l.length c] w fun e w' => NewSl 5 w l.length (l.map b8) e w' :=
  (clone_bytes A l.length c (l.map b8) w (by simp) h (one_b8 _) (by omega)).mono fun _ _ h => h.sl
set_option maxRecDepth 100000 in
theorem htwin_any [Inhabited LoT] (A1 A2 : Option Addr) (c1 c2 : Nat) (k v : List UInt8) (w : World) (h1 : Rd w A1 (k.map b8)) (h2 : Rd w A2 (v.map b8)) (hk : k.length < 1048576) (hv : v.length < 1048576) (hlo : Lo ≤ w.heap.size) :
    Calls Tryz.prog 117 #[.slice A1 k.length c1, .slice A2 v.length c2] w fun e w' => ∃ x, e = .returned (.agg x.toArray) ∧ Below w.heap.size w w' ∧ PairAt w' x ⟨k, v⟩ := by
  have HA := hid (And.intro h1 h2)
  have HLO := hid hlo
  clear h1 h2 hlo
  go_enter Tryz.func117, Tryz.ntmps117
  go_upto_region 1 with fail
  refine wp_world (fun w' => Blk w' w.heap.size 166 [.slice none 0 0, .slice none 0 0] ∧ Below w.heap.size w w') ⟨Blk.new w _ _, below_box _ _⟩ ?_
  rintro w1 ⟨hb1, hbl1⟩
  have HB := hid (And.intro hb1 hbl1)
  clear hb1 hbl1
  go_wp2_with (first
    | (go_at_call 95
       refine (clone_sl A2 c2 v _ ((HA.out.2.grown HB.out.2).grown HV.out.1) (by omega)).mono ?_
       rintro e w3 ⟨A4, c4, rfl, hb3, ho3, hc4, hn4, hy4⟩
       have hbw : Below w1.heap.size w1 w3 := gro HV.out.1 hb3
       have ht := (HB.out.1.grown hbw).there 0 2 (Nat.le_refl _)
       have HY := hid (And.intro hb3 (And.intro ho3 (And.intro hc4 (And.intro hbw (And.intro hn4 hy4))))); clear hb3 ho3 hc4 hbw hn4 hy4)
    | (go_at_call 95
       refine (clone_sl A1 c1 k w1 (HA.out.1.grown HB.out.2) (by omega)).mono ?_
       rintro e w2 ⟨A3, c3, rfl, hb2, ho2, hc3, hn3, hy3⟩
       have HV := hid (And.intro hb2 (And.intro ho2 (And.intro hc3 (And.intro hn3 hy3)))); clear hb2 ho2 hc3 hn3 hy3)
    | ((with_reducible refine st_mid 166 (.tmp 4) (.tmp 9) w.heap.size 0 [.slice A3 k.length c3, .slice A4 v.length c4] 2 rfl ht (by kernel_rfl) ?_ ?_ ?_ ?_ ?_ ?_); (intro u hu; rcases List.mem_cons.1 hu with rfl | hu; rfl; rw [List.mem_singleton] at hu; subst hu; rfl); rfl; rfl; rfl; rfl))
  have hk1 : Kept (· = w.heap.size) w3 (w3.setCells w.heap.size 0 [.slice A3 k.length c3, .slice A4 v.length c4]) := (Kept.refl _ _).setN 0 _
  have hlt := HB.out.1.lt
  have hle := HV.out.1.size
  refine rt_cell w.heap.size 0 [.slice A3 k.length c3, .slice A4 v.length c4] 2 _ rfl (World.rangeAt_setCells_same _ _ _ _ ht) Tryz.underlying166 rfl (by kernel_rfl) rfl rfl rfl ⟨_, rfl, below_setCells _ (Nat.le_refl _) _ _ _ (HB.out.2.trans (HY.out.2.2.2.1.mono HB.out.2.size)), A3, c3, A4, c4, rfl, ?_, ?_, HV.out.2.2.1, HY.out.2.2.1, TyB.up (tyd_setCells _ _ _ (HV.out.2.2.2.2.grown HY.out.1)) HV.out.2.2.2.1 (Nat.le_trans HLO.out HB.out.2.size), TyB.up (tyd_setCells _ _ _ HY.out.2.2.2.2.2) HY.out.2.2.2.2.1 (Nat.le_trans HLO.out (Nat.le_trans HB.out.2.size HV.out.1.size))⟩
  · exact (HV.out.2.1.grown HY.out.1).kept hk1 fun a e _ h => by have := HV.out.2.2.2.1 a e; omega
  · exact HY.out.2.1.kept hk1 fun a e _ h => by have := HY.out.2.2.2.2.1 a e; omega
end Go.Proofs.YtpnakfeafekneaaGreatDoor

namespace Go.Proofs.YtpnakfeafekneaaGreatDoor
namespace Rsha
theorem ext32 {x y : UInt32} (h : x.toBitVec = y.toBitVec) : x = y := UInt32.toBitVec_inj.1 h
theorem choice_eq (e f g : UInt32) : g ^^^ e &&& (f ^^^ g) = e &&& f ^^^ ~~~e &&& g := by
  apply ext32
  simp only [UInt32.toBitVec_xor, UInt32.toBitVec_and, UInt32.toBitVec_not]
  ext i hi
  simp only [BitVec.getElem_xor, BitVec.getElem_and, BitVec.getElem_not]
  cases e.toBitVec[i] <;> cases f.toBitVec[i] <;> cases g.toBitVec[i] <;> rfl
theorem most_eq (a b c : UInt32) : a &&& b ||| c &&& (a ||| b) = a &&& b ^^^ a &&& c ^^^ b &&& c := by
  apply ext32
  simp only [UInt32.toBitVec_xor, UInt32.toBitVec_and, UInt32.toBitVec_or]
  ext i hi
  simp only [BitVec.getElem_xor, BitVec.getElem_and, BitVec.getElem_or]
  cases a.toBitVec[i] <;> cases b.toBitVec[i] <;> cases c.toBitVec[i] <;> rfl
theorem turn_eq (x : UInt32) (n : Nat) (h1 : 1 ≤ n) (h2 : n < 32) : x >>> UInt32.ofNat n + x <<< UInt32.ofNat (32 - n) = Sha.rotr n x := by
  unfold Sha.rotr
  apply ext32
  have e1 : (UInt32.ofNat n).toBitVec % 32#32 = BitVec.ofNat 32 n := by
    apply BitVec.eq_of_toNat_eq
    simp; omega
  have e2 : (UInt32.ofNat (32 - n)).toBitVec % 32#32 = BitVec.ofNat 32 (32 - n) := by
    apply BitVec.eq_of_toNat_eq
    simp; omega
  simp only [UInt32.toBitVec_add, UInt32.toBitVec_or, UInt32.toBitVec_shiftRight, UInt32.toBitVec_shiftLeft]
  rw [BitVec.add_eq_or_of_and_eq_zero, BitVec.or_comm]
  ext i hi
  have hm1 : n % 4294967296 % 32 = n := by omega
  have hm2 : (32 - n) % 4294967296 % 32 = 32 - n := by omega
  simp
  intro ha hb
  exfalso
  have hlt : n % 32 + i < 32 := by
    apply Classical.byContradiction
    intro hge
    rw [BitVec.getLsbD_of_ge _ _ (by omega)] at ha
    cases ha
  omega
end Rsha
end Go.Proofs.YtpnakfeafekneaaGreatDoor

namespace Go.Proofs.YtpnakfeafekneaaGreatDoor
open Go.RowKit
theorem turn_val (x : UInt32) (n : Nat) (h1 : 1 ≤ n) (h2 : n < 32) : IntKind.u32.wrap (n32 x / 2 ^ n + IntKind.u32.wrap (n32 x * 2 ^ (32 - n))) = n32 (Sha.rotr n x) := by
  rw [u32_shl x (32 - n) (by omega), u32_shr x n h2, u32_add, Rsha.turn_eq x n h1 h2]
theorem turn_val2 (x : UInt32) (n : Nat) (h1 : 1 ≤ n) (h2 : n < 32) : (n32 x / 2 ^ n + n32 x * 2 ^ (32 - n)) % 4294967296 = n32 (Sha.rotr n x) := by
  rw [← turn_val x n h1 h2, IntKind.wrap_u32, IntKind.wrap_u32]
  generalize n32 x / 2 ^ n = a
  generalize n32 x * 2 ^ (32 - n) = b
  omega
theorem turn_any (x : UInt32) (n : Nat) (h1 : 1 ≤ n) (h2 : n < 32) (w : World) : Calls Tryz.prog 176 #[b32 x, .int .i64 n] w fun e w' => e = .returned (b32 (Sha.rotr n x)) ∧ ∃ s : Fut w, w' = s.v := by
  have HV := hid (turn_val2 x n h1 h2)
  go_enter Tryz.func176, Tryz.ntmps176
  simp only [b32]
  have i1 : (0 : Int) ≤ (n : Int) := by omega
  have i2 : ¬ (n : Int) < 0 := by omega
  have i3 : ¬ (32 - (n : Int)) < 0 := by omega
  have hw1 : IntKind.i64.wrap (32 - (n : Int)) = ((32 - n : Nat) : Int) := by rw [IntKind.wrap_i64]; omega
  go_upto_region 1 with fail
  refine wp_region_fut (by kernel_rfl) (by kernel_rfl) ?_
  repeat go_big_quiet_step (fail)
  refine wpQuiet_nil ?_
  rintro _ ⟨s, rfl⟩
  go_wp2_with fail
  go_ret
  exact ⟨ret_u32 HV.out, s, rfl⟩
end Go.Proofs.YtpnakfeafekneaaGreatDoor

namespace Go.Proofs.YtpnakfeafekneaaGreatDoor
namespace Rsha
def place (s : Sha.St) (i p : Nat) : UInt32 := stf s ((p + i) % 8)
theorem place_zero (s : Sha.St) (p : Nat) (h : p < 8) : place s 0 p = stf s p := by
  unfold place; rw [Nat.add_zero, Nat.mod_eq_of_lt h]
theorem place_last (s : Sha.St) (p : Nat) (h : p < 8) : place s 64 p = stf s p := by
  unfold place; rw [show (p + 64) % 8 = p from by omega]
theorem place_at (s : Sha.St) (i j : Nat) (hi : i < 64) (hj : j < 8) : place s i ((64 - i + j) % 8) = stf s j := by
  unfold place; rw [show ((64 - i + j) % 8 + i) % 8 = j from by omega]
theorem stf_step (s : Sha.St) (i : Nat) (w : UInt32) (j : Nat) (hj : j < 7) : stf (Sha.step s i w) (j + 1) = if j = 3 then s.d + Sha.T1 s i w else stf s j := by
  match j, hj with | 0, _ => rfl | 1, _ => rfl | 2, _ => rfl | 3, _ => rfl | 4, _ => rfl | 5, _ => rfl | 6, _ => rfl
theorem place_step (s : Sha.St) (i : Nat) (w : UInt32) (p : Nat) (hi : i < 64) (hp : p < 8) :
    place (Sha.step s i w) (i + 1) p = if p = (64 - i + 7) % 8 then Sha.T1 s i w + Sha.T2 s else if p = (64 - i + 3) % 8 then s.d + Sha.T1 s i w else place s i p := by
  unfold place
  by_cases h7 : (p + i) % 8 = 7
  · rw [if_pos (by omega), show (p + (i + 1)) % 8 = 0 from by omega]; rfl
  · rw [if_neg (by omega), show (p + (i + 1)) % 8 = (p + i) % 8 + 1 from by omega, stf_step _ _ _ _ (by omega)]
    by_cases h3 : (p + i) % 8 = 3
    · rw [if_pos h3, if_pos (by omega)]
    · rw [if_neg h3, if_neg (by omega)]
theorem W_ref (m : Nat → UInt8) (i : Nat) (h : ¬ i < 16) : Sha.W m i = Sha.W m (i - 16) + Sha.W m (i - 7) + Sha.sg0 (Sha.W m (i - 15)) + Sha.sg1 (Sha.W m (i - 2)) := by
  rw [Sha.W_high m i h, UInt32.add_assoc (Sha.W m (i - 16)) (Sha.sg0 _), UInt32.add_comm (Sha.sg0 _) (Sha.W m (i - 7)), ← UInt32.add_assoc]
theorem be_nat (a b c d : Nat) (hb : b < 256) (hc : c < 256) (hd : d < 256) : a <<< 24 ||| b <<< 16 ||| c <<< 8 ||| d = a * 16777216 + b * 65536 + c * 256 + d := by
  have e1 : a <<< 24 ||| b <<< 16 = (a * 256 + b) <<< 16 := by
    rw [← Nat.shiftLeft_add_eq_or_of_lt (show b <<< 16 < 2 ^ 24 from by rw [Nat.shiftLeft_eq]; omega)]
    simp only [Nat.shiftLeft_eq]; omega
  have e2 : (a * 256 + b) <<< 16 ||| c <<< 8 = ((a * 256 + b) * 256 + c) <<< 8 := by
    rw [← Nat.shiftLeft_add_eq_or_of_lt (show c <<< 8 < 2 ^ 16 from by rw [Nat.shiftLeft_eq]; omega)]
    simp only [Nat.shiftLeft_eq]; omega
  rw [e1, e2, ← Nat.shiftLeft_add_eq_or_of_lt (show d < 2 ^ 8 from hd), Nat.shiftLeft_eq]; omega
theorem be_add (a b c d : UInt8) : a.toUInt32 <<< 24 + b.toUInt32 <<< 16 + c.toUInt32 <<< 8 + d.toUInt32 = a.toUInt32 <<< 24 ||| b.toUInt32 <<< 16 ||| c.toUInt32 <<< 8 ||| d.toUInt32 := by
  apply UInt32.toNat_inj.1
  have ha := a.toNat_lt
  have hb := b.toNat_lt
  have hc := c.toNat_lt
  have hd := d.toNat_lt
  have s24 : (a.toUInt32 <<< 24).toNat = a.toNat <<< 24 := by simp [Nat.shiftLeft_eq]; omega
  have s16 : (b.toUInt32 <<< 16).toNat = b.toNat <<< 16 := by simp [Nat.shiftLeft_eq]; omega
  have s8 : (c.toUInt32 <<< 8).toNat = c.toNat <<< 8 := by simp [Nat.shiftLeft_eq]; omega
  simp only [UInt32.toNat_add, UInt32.toNat_or, s24, s16, s8, UInt8.toNat_toUInt32]
  rw [be_nat _ _ _ _ (by omega) (by omega) (by omega)]
  simp only [Nat.shiftLeft_eq]; omega
end Rsha
end Go.Proofs.YtpnakfeafekneaaGreatDoor
