/- Part 30 of this proof: V6, V7, V8. -/
import Derived.Deep.DeepCutAuto
import Derived.Test.YtpnakfeafekneaaGreatDoorG29
set_option linter.unusedSimpArgs false
set_option linter.unusedVariables false
namespace Go.Proofs.YtpnakfeafekneaaGreatDoor
open Go.RowKit
section
variable {w w' : World}
theorem Stay.mono {T T' : TypeId → Prop} (h : Stay T w w') (ht : ∀ t, T' t → T t) : Stay T' w w' := fun k t c fz hT hh => h k t c fz (ht t hT) hh
theorem Stay.own {T : TypeId → Prop} (h : Stay T w w') {base : Nat} {e : TypeId} {size n : Nat} {v : Value} {xs : List Value} (ho : w.ownsRow base e size v n xs) (ht : T e) : w'.ownsRow base e size v n xs := by
  refine ⟨ho.1, ho.2.imp id ?_⟩
  rintro ⟨g, cap, cur, h1, h2, h3, h4⟩
  exact ⟨g, cap, cur, h1, h2, h _ _ _ _ ht h3, h4⟩
def But (x : TypeId) (w w' : World) : Prop := Stay (fun t => t ≠ x) w w'
theorem But.append {x : TypeId} {base size n : Nat} {v : Value} {xs : List Value} (ho : w.ownsRow base x size v n xs) (hg : w.grownBy w' v.ownBlock) : But x w w' :=
  Stay.of_kept (kept_of_grownBy hg) fun k hk t c fz hh hne => by
    obtain ⟨A, cp, rfl, -, -⟩ := rd_own ho
    cases A with
    | none => cases hk
    | some a =>
      obtain ⟨cc, fz', hh'⟩ := own_tyd ho a rfl
      have : a.block = k := by simpa [Value.ownBlock] using hk
      subst this
      rw [hh'] at hh
      cases hh
      exact hne rfl
theorem But.set {x : TypeId} {g : Nat} {cs : List Value} (hb : Blk w g x cs) (i : Nat) (u : Value) : But x w (w.setCell ⟨g, i, none⟩ u) :=
  Stay.of_kept (S := (· = g)) ((Kept.refl _ _).set1 i u) fun k hk t c fz hh hne => by
    subst hk
    have hb' : w.heap[k]? = _ := hb
    rw [hb'] at hh
    cases hh
    exact hne rfl
theorem But.pure [Inhabited LoT] {x : TypeId} (h : But x w w') (hx : ¬ PureT x) : Stay PureT w w' := h.mono fun t ht e => hx (e ▸ ht)
end
def Mk [Inhabited LoT] (B n : Nat) (w : World) (q : Nat) (es : List Ent) (m : List Pr) (rs : List Rt) (ds : List (List UInt8)) (vL : Value) (mb : Nat) (eV pV : Value) : Prop :=
  ∃ L, Blk w q 100 [.pointer none, ptr mb, eV, pV] ∧ MapAt w n mb m ∧ EntsTy w L es ∧ w.ownsRow B 36 3 eV es.length L.flatten ∧ w.ownsRow B 42 65 pV rs.length (rtRow rs).flatten ∧ w.ownsRow B 40 32 vL ds.length (dgs ds).flatten ∧ B ≤ q
section
variable {B n q : Nat} {w w' : World} {es : List Ent} {m : List Pr} {rs : List Rt} {ds : List (List UInt8)} {vL : Value} {mb : Nat} {eV pV : Value}
theorem Mk.grown [Inhabited LoT] (h : Mk B n w q es m rs ds vL mb eV pV) (hb : Below w.heap.size w w') : Mk B n w' q es m rs ds vL mb eV pV := by
  obtain ⟨L, h1, h2, h3, h4, h5, h6, h7⟩ := h
  exact ⟨L, h1.grown hb, h2.grown hb, h3.grown hb, own_grown h4 hb, own_grown h5 hb, own_grown h6 hb, h7⟩
theorem Mk.blk [Inhabited LoT] (h : Mk B n w q es m rs ds vL mb eV pV) : Blk w q 100 [.pointer none, ptr mb, eV, pV] := h.choose_spec.1
theorem Mk.map [Inhabited LoT] (h : Mk B n w q es m rs ds vL mb eV pV) : MapAt w n mb m := h.choose_spec.2.1
theorem Mk.leaves [Inhabited LoT] (h : Mk B n w q es m rs ds vL mb eV pV) : w.ownsRow B 40 32 vL ds.length (dgs ds).flatten := by obtain ⟨L, h1, h2, h3, h4, h5, h6, h7⟩ := h; exact h6
theorem Mk.ents [Inhabited LoT] (h : Mk B n w q es m rs ds vL mb eV pV) : ∃ L, EntsTy w L es ∧ w.ownsRow B 36 3 eV es.length L.flatten := by obtain ⟨L, h1, h2, h3, h4, h5, h6, h7⟩ := h; exact ⟨L, h3, h4⟩
theorem Mk.base [Inhabited LoT] (h : Mk B n w q es m rs ds vL mb eV pV) : B ≤ w.heap.size := by obtain ⟨L, h1, h2, h3, h4, h5, h6, h7⟩ := h; have := h1.lt; omega
theorem Mk.entry [Inhabited LoT] (h : Mk B n w q es m rs ds vL mb eV pV) {L : List (List Value)} (hL : EntsTy w L es) (ho : w.ownsRow B 36 3 eV es.length L.flatten) {x : List Value} {e : Ent} (hx : EntTy w x e) {eV' : Value} (hn : w'.ownsRow B 36 3 eV' (es.length + 1) (L.flatten ++ x)) (hg : w.grownBy w' eV.ownBlock) :
    Mk B n (w'.setCell ⟨q, 2, none⟩ eV') q (es ++ [e]) m rs ds vL mb eV' pV := by
  obtain ⟨-, h1, h2, -, -, h5, h6, h7⟩ := h
  have s1 := But.append ho hg
  have p1 := s1.pure (by decide)
  have hb := s1.blk h1 (by decide)
  have s2 := But.set hb 2 eV'
  have p2 := s2.pure (by decide)
  have p := p1.trans p2
  refine ⟨L ++ [x], hb.set_ 2 eV', h2.stay p, (hL.append (EntsTy.one hx)).stay p, ?_, s2.own (s1.own h5 (by decide)) (by decide), s2.own (s1.own h6 (by decide)) (by decide), h7⟩
  rw [List.length_append, List.flatten_append]
  simpa using s2.own hn (by decide)
theorem Mk.ge [Inhabited LoT] (h : Mk B n w q es m rs ds vL mb eV pV) : B ≤ q := by obtain ⟨L, h1, h2, h3, h4, h5, h6, h7⟩ := h; exact h7
theorem Mk.entry_blk [Inhabited LoT] (h : Mk B n w q es m rs ds vL mb eV pV) (hg : w.grownBy w' eV.ownBlock) : Blk w' q 100 [.pointer none, ptr mb, eV, pV] := by
  obtain ⟨L, h1, h2, h3, h4, h5, h6, h7⟩ := h
  exact (But.append h4 hg).blk h1 (by decide)
theorem Mk.leaf [Inhabited LoT] (h : Mk B n w q es m rs ds vL mb eV pV) (d : List UInt8) {vL' : Value} (hn : w'.ownsRow B 40 32 vL' (ds.length + 1) ((dgs ds).flatten ++ d.map b8)) (hg : w.grownBy w' vL.ownBlock) :
    Mk B n w' q es m rs (ds ++ [d]) vL' mb eV pV := by
  obtain ⟨L, h1, h2, h3, h4, h5, h6, h7⟩ := h
  have s1 := But.append h6 hg
  have p1 := s1.pure (by decide)
  refine ⟨L, s1.blk h1 (by decide), h2.stay p1, h3.stay p1, s1.own h4 (by decide), s1.own h5 (by decide), ?_, h7⟩
  rw [List.length_append]
  simpa [dgs] using hn
theorem Mk.put [Inhabited LoT] (h : Mk B n w q es m rs ds vL mb eV pV) {mb' : Nat} {m' : List Pr} (hm : MapAt w n mb' m') : Mk B n (w.setCell ⟨q, 1, none⟩ (ptr mb')) q es m' rs ds vL mb' eV pV := by
  obtain ⟨L, h1, h2, h3, h4, h5, h6, h7⟩ := h
  have s2 := But.set h1 1 (ptr mb')
  have p2 := s2.pure (by decide)
  exact ⟨L, h1.set_ 1 _, hm.stay p2, h3.stay p2, s2.own h4 (by decide), s2.own h5 (by decide), s2.own h6 (by decide), h7⟩
theorem grownBy_below {size k : Nat} {e : TypeId} {v : Value} {xs : List Value} {w0 : World} (ho : w.ownsRow B e size v k xs) (hb : Below B w0 w) (hB : B ≤ w.heap.size) (hg : w.grownBy w' v.ownBlock) : Below B w0 w' :=
  (kept_of_grownBy hg).step hb hB fun i hi hs => by have := (ho.lt i hs).1; omega
theorem set_below {w0 : World} (hq : B ≤ q) (hb : Below B w0 w) (i : Nat) (u : Value) : Below B w0 (w.setCell ⟨q, i, none⟩ u) := hb.setCell (p := ⟨q, i, none⟩) hq u
end
theorem Mk.entry_step [Inhabited LoT] {B n q N : Nat} {w0 wr w7 w9 : World} {es : List Ent} {m : List Pr} {rs : List Rt} {ds : List (List UInt8)} {vL : Value} {mb : Nat} {eV eV2 pV : Value} (h : Mk B n wr q es m rs ds vL mb eV pV) {L : List (List Value)} (hL : EntsTy wr L es) (hN : N = es.length) (ho : wr.ownsRow B 36 3 eV N L.flatten) (hb7 : Below wr.heap.size wr w7) {cs : List Value} (hx : Blk w7 wr.heap.size 36 cs) {y : List Value} {e : Ent} (hy : EntTy w7 y e)
    (hn : w9.ownsRow B 36 3 eV2 (N + 1) (L.flatten ++ y)) (hg : w7.grownBy w9 eV.ownBlock) (hB : Below B w0 wr) (hBw : B ≤ wr.heap.size) :
    Blk w9 wr.heap.size 36 cs ∧ (w9.cell? ⟨q, 2, none⟩ = some eV ∧ w9.frozen? ⟨q, 2, none⟩ = false) ∧ (∀ u, Blk (w9.setCell ⟨q, 2, none⟩ u) wr.heap.size 36 cs) ∧ Mk B n (w9.setCell ⟨q, 2, none⟩ eV2) q (es ++ [e]) m rs ds vL mb eV2 pV ∧ Below B w0 (w9.setCell ⟨q, 2, none⟩ eV2) := by
  subst hN
  have h7 := h.grown hb7
  have ho7 := own_grown ho hb7
  have hm9 := h7.entry (hL.grown hb7) ho7 hy hn hg
  have hq9 := h7.entry_blk hg
  have hx9 : Blk w9 wr.heap.size 36 cs := (kept_of_grownBy hg).blk hx (fun hk => by have := (ho.lt _ hk).2; omega)
  have hne := Blk.ne_type hq9 hx9 (by decide)
  have hB7 : Below B w0 w7 := hB.trans (hb7.mono hBw)
  exact ⟨hx9, ⟨by rw [hq9.cell]; rfl, hq9.frozen 2⟩, fun u => hx9.far hne u, hm9, set_below h.ge (grownBy_below ho7 hB7 (Nat.le_trans hBw hb7.size) hg) 2 _⟩
theorem Mk.put_step [Inhabited LoT] {B n q x : Nat} {w0 wr w7 : World} {es : List Ent} {m m' : List Pr} {rs : List Rt} {ds : List (List UInt8)} {vL : Value} {mb mb' : Nat} {eV pV : Value} (h : Mk B n wr q es m rs ds vL mb eV pV) (hb7 : Below wr.heap.size wr w7) (hm : MapAt w7 n mb' m') {cs : List Value} (hx : Blk wr x 36 cs) (hB : Below B w0 wr) :
    Blk w7 x 36 cs ∧ (w7.cell? ⟨q, 1, none⟩ = some (ptr mb) ∧ w7.frozen? ⟨q, 1, none⟩ = false) ∧ (∀ u, Blk (w7.setCell ⟨q, 1, none⟩ u) x 36 cs) ∧ Mk B n (w7.setCell ⟨q, 1, none⟩ (ptr mb')) q es m' rs ds vL mb' eV pV ∧ Below B w0 (w7.setCell ⟨q, 1, none⟩ (ptr mb')) := by
  have h7 := h.grown hb7
  have hq := h7.blk
  have hx7 := hx.grown hb7
  have hne := Blk.ne_type hq hx7 (by decide)
  exact ⟨hx7, ⟨by rw [hq.cell]; rfl, hq.frozen 1⟩, fun u => hx7.far hne u, h7.put hm, set_below h.ge (hB.trans (hb7.mono h.base)) 1 _⟩
theorem Mk.leaf_step [Inhabited LoT] {B n q x : Nat} {w0 wr w7 w9 : World} {es : List Ent} {m : List Pr} {rs : List Rt} {ds : List (List UInt8)} {vL vL2 : Value} {mb : Nat} {eV pV : Value} (h : Mk B n wr q es m rs ds vL mb eV pV) (hb7 : Below wr.heap.size wr w7) {cs : List Value} (hx : Blk wr x 36 cs) (d : List UInt8)
    (hn : w9.ownsRow B 40 32 vL2 (ds.length + 1) ((dgs ds).flatten ++ [d.map b8].flatten)) (hg : w7.grownBy w9 vL.ownBlock) (hB : Below B w0 wr) :
    Blk w9 x 36 cs ∧ Mk B n w9 q es m rs (ds ++ [d]) vL2 mb eV pV ∧ Below B w0 w9 := by
  have h7 := h.grown hb7
  have ho7 := h7.leaves
  exact ⟨(But.append ho7 hg).blk (hx.grown hb7) (by decide), h7.leaf d (by simpa using hn) hg, grownBy_below ho7 (hB.trans (hb7.mono h.base)) (Nat.le_trans h.base hb7.size) hg⟩
theorem Mk.finish [Inhabited LoT] {B n q : Nat} {wr w7 : World} {es : List Ent} {m : List Pr} {rs : List Rt} {ds : List (List UInt8)} {vL : Value} {mb tb : Nat} {eV pV : Value} (h : Mk B n wr q es m rs ds vL mb eV pV) (hm : m = Sn.map n es) (hb7 : Below wr.heap.size wr w7) (ht : TreeAt w7 tb n (Sn.leaves n es)) (h1 : 1 ≤ n) (h2 : n ≤ 32) (hw : Words (w7.setCell ⟨q, 0, none⟩ (ptr tb))) (hok : ∀ r ∈ rs, RtOk r) (hel : es.length < 1048576) (hrs : rs.length < 1048576) :
    (w7.cell? ⟨q, 0, none⟩ = some (.pointer none) ∧ w7.frozen? ⟨q, 0, none⟩ = false) ∧ Calls Tryz.prog 67 #[ptr q] (w7.setCell ⟨q, 0, none⟩ (ptr tb)) fun e w' => e = .returned (ptr q) ∧ Below B (w7.setCell ⟨q, 0, none⟩ (ptr tb)) w' ∧ SnapAt B w' n q es (rs ++ [Sn.root n es]) := by
  subst hm
  obtain ⟨L, g1, g2, g3, g4, g5, g6, g7⟩ := h.grown hb7
  refine ⟨⟨by rw [g1.cell]; rfl, g1.frozen 0⟩, ?_⟩
  have s2 := But.set g1 0 (ptr tb)
  have p2 := s2.pure (by decide)
  have o4 := s2.own g4 (by decide)
  obtain ⟨A, c, rfl, hr, -⟩ := rd_own o4
  exact bounded_snap B q tb mb n h1 h2 es A c L pV rs _ (g1.set_ 0 (ptr tb)) (ht.stay p2) (g2.stay p2) hr (g3.stay p2) (own_tyd o4) (s2.own g5 (by decide)) g7 hw hok hel hrs
theorem del_len (k : List UInt8) (m : List Pr) : (Hm.del k m).length ≤ m.length := by unfold Hm.del; exact List.length_filter_le _ _
theorem map_len [Inhabited LoT] (n : Nat) (es : List Ent) : (Sn.map n es).length ≤ es.length := by
  unfold Sn.map
  suffices h : ∀ (es : List Ent) (m : List Pr), (es.foldl (Sn.step n) m).length ≤ m.length + es.length by simpa using h es []
  intro es
  induction es with
  | nil => intro m; simp
  | cons e es ih =>
    intro m
    have h1 := ih (Sn.step n m e)
    have h2 : (Sn.step n m e).length ≤ m.length + 1 := by
      unfold Sn.step
      split
      · exact ins_len n _ m
      · have := del_len e.key m; omega
    simp only [List.foldl_cons, List.length_cons]
    omega
end Go.Proofs.YtpnakfeafekneaaGreatDoor

namespace Go.Proofs.YtpnakfeafekneaaGreatDoor
open Go.RowKit
theorem own_low {w : World} {base base' size n : Nat} {e : TypeId} {v : Value} {xs : List Value} (h : w.ownsRow base e size v n xs) (hb : base' ≤ base) : w.ownsRow base' e size v n xs :=
  own_base h fun k hk => Nat.le_trans hb (h.lt k hk).1
@[go_sem] def ldEnts : Op := .load 22 (.tmp 55)
@[go_sem] def ldPairs : Op := .load 98 (.tmp 76)
@[go_sem] def ldPairs2 : Op := .load 98 (.tmp 91)
attribute [-go_sem] Instr.buildSlice in
set_option maxHeartbeats 4000000 in
set_option maxRecDepth 100000 in
theorem sapply_ok [Inhabited LoT] (S0 b n : Nat) (h1 : 1 ≤ n) (h2 : n ≤ 32) (es aa : List Ent) (rs : List Rt) (A : Option Addr) (c : Nat) (L : List (List Value)) (w : World) (hw : Words w) (hs : SnapAt S0 w n b es rs) (hA : Rd w A L.flatten) (hE : EntsAt w L aa) (hel : es.length + aa.length < 1048576) (hrl : rs.length + 1 < 1048576) (hck : En.bchk es.length aa = 0) :
    Calls Tryz.prog 40 #[ptr b, .agg #[.int .u64 es.length, .slice A aa.length c]] w fun e w' => ∃ b', e = .returned (.tuple #[ptr b', .int .i64 0]) ∧ Below w.heap.size w w' ∧ SnapAt w.heap.size w' n b' (es ++ aa) (rs ++ [Sn.root n (es ++ aa)]) := by
  have hchk := En.bchk_zero hck
  obtain ⟨tb, mb, Ae, ce, Le, Ap, cp, hb, ht, hm, ⟨he1, he2, he3⟩, ⟨hp1, hp2, -⟩, hlast, hok⟩ := hs
  have HLO := hid (show Lo ≤ w.heap.size from Nat.le_trans hm.lo (Nat.le_of_lt hm.node.choose_spec.1.lt))
  have hec := clone_entries Ae es.length ce Le.flatten
  have hpc := clone_roots Ap rs.length cp (rtRow rs).flatten
  have hel3 := he2.flat
  have hpl : (rtRow rs).flatten.length = rs.length * 65 := by rw [flatten_len 65 _ (rtRow_len hok)]; simp [rtRow]
  have hpo : ∀ v ∈ (rtRow rs).flatten, v.oneCell' = true := fun v hv => by
    obtain ⟨x, hx, hv⟩ := List.mem_flatten.1 hv
    obtain ⟨r, hr, rfl⟩ := List.mem_map.1 hx
    exact rt_oc r v hv
  have heo := he2.oc
  have hsz := ssize_any b Ap cp rs (Sn.root n es)
  have HEC := hid (fun (w' : World) (h : Below w.heap.size w w') => hec w' hel3 (he1.grown h) heo (by omega))
  have HPC := hid (fun (w' : World) (h : Below w.heap.size w w') => hpc w' hpl (hp1.grown h) hpo (by omega))
  have hszs : ∀ w', Below w.heap.size w w' → Calls Tryz.prog 47 #[ptr b] w' fun e w'' => e = .returned (.int .u64 es.length) ∧ Below w'.heap.size w' w'' := fun (w' : World) (h : Below w.heap.size w w') => hsz w' (by rw [(hb.grown h).cell]; rfl) (hp1.grown h) hok hlast (by omega)
  have HSZ := hid hszs
  clear hszs
  have heb : ∀ w', Below w.heap.size w w' → Calls Tryz.prog 68 #[.agg #[.int .u64 es.length, .slice A aa.length c]] w' fun e w'' => ∃ v, e = .returned (.tuple #[v, .int .i64 0]) ∧ Below w'.heap.size w' w'' := fun w' h => by
    have := ebatch_any es.length (by omega) A c L aa w' (hA.grown h) (hE.grown h) (by omega)
    rw [hck] at this
    exact this
  have HEB := hid heb
  clear heb
  have HA := hid (And.intro hw (And.intro hA (And.intro hE (And.intro hchk (And.intro hb (And.intro ht (And.intro hm (And.intro he2 (And.intro hok hck)))))))))
  clear hec hpc hsz hpl hpo heo hel3 hw hA hE hchk hb ht hm he1 he2 he3 hp1 hp2 hlast hok hck
  have hbk : Blk (w.alloc (.cells #[.int .u64 es.length, .slice A aa.length c] 47)) w.heap.size 47 [.int .u64 es.length, .slice A aa.length c] := Blk.new w _ _
  go_enter Tryz.func40, Tryz.ntmps40
  go_upto_region 1 with fail
  refine wp_world (fun w' => Blk w' w.heap.size 47 [.int .u64 es.length, .slice A aa.length c] ∧ Below w.heap.size w w') ⟨hbk, below_box _ _⟩ ?_
  clear hbk
  rintro w1 ⟨hb1, hbl1⟩
  have hr1 := hb1.whole
  have HB := hid (And.intro hb1 hbl1)
  clear hb1 hbl1
  go_upto_region 6 with (first
    | ((with_reducible refine ld_mid 47 (.tmp 3) w.heap.size 0 _ 2 _ rfl hr1 Tryz.underlying47 rfl (by kernel_rfl) ?_ ?_ ?_ ?_); rfl; rfl; rfl)
    | (go_at_call 68
       refine (HEB.out _ HB.out.2).mono ?_
       rintro e w2 ⟨v2, rfl, hb2⟩
       have HV := hid (And.intro hb2 (gro HB.out.2 hb2))
       clear hb2))
  have HS : ∀ w', Below w2.heap.size w2 w' → w'.cell? ⟨w.heap.size, 0, none⟩ = some (.int .u64 es.length) := fun w' h => by rw [((HB.out.1.grown HV.out.1).grown h).cell]; rfl
  have hd : Below w2.heap.size w2 w2.drew := (Below.refl _ _).drew
  have HT := hid (And.intro HS hd)
  clear HS hd
  go_region_held3 (fun w' => w'.cell? ⟨w.heap.size, 0, none⟩ = some (.int .u64 es.length))
    (first | exact HT.out.1 _ HT.out.2 | exact HT.out.1 _ H3.out.1)
    (first
      | (go_at_call 47
         refine (HSZ.out _ (gro HV.out.2 HT.out.2)).mono ?_
         rintro e w3 ⟨rfl, hb3⟩
         have H3 := hid (And.intro (gro HT.out.2 hb3) True.intro)
         clear hb3))
  go_upto_region 8 with fail
  have HS : ∀ w', Below w3.heap.size w3 w' → w'.cell? ⟨b, 1, none⟩ = some (ptr mb) ∧ w'.cell? ⟨b, 2, none⟩ = some (.slice Ae es.length ce) ∧ w'.cell? ⟨b, 3, none⟩ = some (.slice Ap rs.length cp) := fun w' h => by
    have h := HA.out.2.2.2.2.1.grown (gro (gro HV.out.2 H3.out.1) h)
    exact ⟨by rw [h.cell]; rfl, by rw [h.cell]; rfl, by rw [h.cell]; rfl⟩
  have hd : Below w3.heap.size w3 w3.drew := (Below.refl _ _).drew
  have HT2 := hid (And.intro HS (And.intro hd (gro (gro HV.out.2 H3.out.1) hd)))
  clear HS hd
  go_cut [8] (fun s8 wx => ∃ (q : Nat) (eV pV : Value), s8 = ptr q ∧ Mk w.heap.size n wx q es (Sn.map n es) rs [] (.slice none 0 0) mb eV pV ∧ Blk wx w.heap.size 47 [.int .u64 es.length, .slice A aa.length c] ∧ Below w.heap.size w wx)
  case first =>
    go_region_held3 (fun w' => w'.cell? ⟨b, 1, none⟩ = some (ptr mb) ∧ w'.cell? ⟨b, 2, none⟩ = some (.slice Ae es.length ce) ∧ w'.cell? ⟨b, 3, none⟩ = some (.slice Ap rs.length cp))
      (first | exact HT2.out.1 _ HT2.out.2.1 | exact HT2.out.1 _ H5.out.1 | exact HT2.out.1 _ (H5.out.1.alloc H5.out.1.size _) | exact HT2.out.1 _ HP4.out.1 | exact HT2.out.1 _ HE4.out.1)
      (first
        | (go_at_call 69
           refine (HPC.out _ (gro HT2.out.2.2 HE4.out.2.2.1)).mono ?_
           rintro e w5 ⟨v5, rfl, hb5, ho5, -⟩
           obtain ⟨A7, c7, rfl, -, -⟩ := rd_own ho5
           replace ho5 := own_low ho5 (gro HT2.out.2.2 HE4.out.2.2.1).size
           have H5 := hid (And.intro (gro HE4.out.1 hb5) (And.intro (own_grown HE4.out.2.1 hb5) ho5))
           clear hb5 ho5)
        | (go_at_call 70
           refine (HEC.out _ (gro HT2.out.2.2 HP4.out.2.2.1)).mono ?_
           rintro e w5 ⟨v5, rfl, hb5, ho5, -⟩
           obtain ⟨A8, c8, rfl, -, -⟩ := rd_own ho5
           replace ho5 := own_low ho5 (gro HT2.out.2.2 HP4.out.2.2.1).size
           have H5 := hid (And.intro (gro HP4.out.1 hb5) (And.intro ho5 (own_grown HP4.out.2.1 hb5)))
           clear hb5 ho5)
        | (go_at_call 69
           refine (HPC.out _ HT2.out.2.2).mono ?_
           rintro e w4 ⟨v4, rfl, hb4, ho4, -⟩
           obtain ⟨A7, c7, rfl, -, -⟩ := rd_own ho4
           replace ho4 := own_low ho4 HT2.out.2.2.size
           have HP4 := hid (And.intro (gro HT2.out.2.1 hb4) (And.intro ho4 (And.intro hb4 True.intro)))
           clear hb4 ho4)
        | (go_at_call 70
           refine (HEC.out _ HT2.out.2.2).mono ?_
           rintro e w4 ⟨v4, rfl, hb4, ho4, -⟩
           obtain ⟨A8, c8, rfl, -, -⟩ := rd_own ho4
           replace ho4 := own_low ho4 HT2.out.2.2.size
           have HE4 := hid (And.intro (gro HT2.out.2.1 hb4) (And.intro ho4 (And.intro hb4 True.intro)))
           clear hb4 ho4))
    all_goals
      go_wp2_with fail
      go_meet
      have hw5 := gro (gro HV.out.2 H3.out.1) H5.out.1
      have hbx := below_box w5 (.cells #[.pointer none, ptr mb, .slice A8 es.length c8, .slice A7 rs.length c7] 100)
      refine ⟨_, _, _, rfl, ⟨Le, Blk.new w5 _ [.pointer none, ptr mb, .slice A8 es.length c8, .slice A7 rs.length c7], HA.out.2.2.2.2.2.2.1.grown (gro hw5 hbx), HA.out.2.2.2.2.2.2.2.1.grown (gro hw5 hbx), own_grown H5.out.2.1 hbx, own_grown H5.out.2.2 hbx, World.ownsRow_nil _ _ _ _, hw5.size⟩, (HB.out.1.grown (gro HV.out.1 (gro H3.out.1 H5.out.1))).grown hbx, gro hw5 hbx⟩
  case rest =>
    obtain ⟨q, eV, pV, rfl, hmk, hbx, hbl⟩ := hcut
    have c1 : wc.cell? ⟨w.heap.size, 1, none⟩ = some (.slice A aa.length c) := by rw [hbx.cell]; rfl
    have HM := hid (And.intro hmk hbl)
    clear hmk hbl hbx HT HEC HPC HSZ HEB H3 HV HB hr1
    go_wp2_with fail
    go_loopg [9, 48] aa.length (fun g s9 i wr => ∃ (j mb' : Nat) (eV' pV' : Value) (Al : Option Addr) (cl : Nat), j + g = aa.length ∧ i = .int .i64 j ∧ s9 = .slice Al j cl ∧ Mk w.heap.size n wr q (es ++ aa.take j) (Sn.map n (es ++ aa.take j)) rs (Sn.leaves n (aa.take j)) (.slice Al j cl) mb' eV' pV' ∧ Below w.heap.size w wr)
    case atStart => exact ⟨0, mb, eV, pV, none, 0, by omega, rfl, rfl, by simpa [Sn.leaves] using HM.out.1, HM.out.2⟩
    case round =>
      obtain ⟨j, mb', eV', pV', Al, cl, hj, rfl, rfl, hmk, hbl⟩ := hrel
      have HR := hid (And.intro hmk hbl)
      clear hmk hbl
      by_cases hlt : j < aa.length
      · obtain ⟨kind, key, val, hjj⟩ : ∃ kind key val, aa[j]? = some ⟨kind, key, val⟩ := ⟨aa[j].kind, aa[j].key, aa[j].val, by simp [hlt]⟩
        have hsub : aa.take (j + 1) = aa.take j ++ [⟨kind, key, val⟩] := by rw [List.take_succ_eq_append_getElem hlt, (List.getElem?_eq_some_iff.1 hjj).2]
        have hok := HA.out.2.2.2.1.2.2.2 _ (List.mem_of_getElem? hjj)
        have hlen := En.lens _ hok
        simp only at hlen
        have hL := HA.out.2.2.1.len
        have hjl : j < L.length := by omega
        obtain ⟨g, o, rfl, hr⟩ := HA.out.2.1 (by
          intro e
          have := flatten_len 3 _ HA.out.2.2.1.three
          rw [e] at this
          simp at this; omega)
        have hp := range_part hr HA.out.2.2.1.three j hjl
        obtain ⟨A1, c1', A2, c2', hx, hr1, hr2, hc1, hc2⟩ := HA.out.2.2.1.at_ j L[j] ⟨kind, key, val⟩ (by simp [hjl]) hjj
        rw [hx] at hp
        simp only [] at hp
        have hlb := range_lt hp (by simp)
        have hp2 := range_below hp HR.out.2 hlb
        have hea : EntAt w [b8 kind, .slice A1 key.length c1', .slice A2 val.length c2'] ⟨kind, key, val⟩ := ⟨A1, c1', A2, c2', rfl, hr1, hr2, hc1, hc2⟩
        have hoc : ∀ v ∈ [b8 kind, .slice A1 key.length c1', .slice A2 val.length c2'], v.oneCell' = true := fun v hv => by
          simp only [List.mem_cons, List.not_mem_nil, or_false] at hv
          rcases hv with rfl | rfl | rfl <;> rfl
        have HX := hid (And.intro hsub (And.intro hok (And.intro hlen (And.intro hea (And.intro hr1 hr2)))))
        clear hr hr1 hr2 hx hp hsub hok hea hc1 hc2 hL
        go_upto_region 13 with (first
          | ((with_reducible refine ld_mid 36 (.tmp 50) g (o + j * 3) _ 3 _ rfl hp2 Tryz.underlying36 rfl (by kernel_rfl) ?_ ?_ ?_ ?_); rfl; rfl; rfl)
          | ((with_reducible refine st_new 36 (.tmp 11) (.tmp 51) _ _ [b8 kind, .slice A1 key.length c1', .slice A2 val.length c2'] 3 rfl ?_ (by kernel_rfl) hoc ?_ ?_ ?_ ?_ ?_); rfl; rfl; rfl; rfl; rfl))
        refine wp_world (fun w' => Blk w' wr.heap.size 36 [b8 kind, .slice A1 key.length c1', .slice A2 val.length c2'] ∧ Below wr.heap.size wr w') ⟨Blk.new wr _ _, below_box _ _⟩ ?_
        rintro wd ⟨hbx, hbl⟩
        have HD := hid (And.intro hbx hbl)
        clear hbx hbl hoc hp2 hlb
        have hc3 : ∀ w', Blk w' wr.heap.size 36 [b8 kind, .slice A1 key.length c1', .slice A2 val.length c2'] → w'.cell? ⟨wr.heap.size, 0, none⟩ = some (b8 kind) ∧ w'.cell? ⟨wr.heap.size, 1, none⟩ = some (.slice A1 key.length c1') ∧ w'.cell? ⟨wr.heap.size, 2, none⟩ = some (.slice A2 val.length c2') := fun w' h => ⟨by rw [h.cell]; rfl, by rw [h.cell]; rfl, by rw [h.cell]; rfl⟩
        have HC3 := hid hc3
        clear hc3
        simp only [Act.put]
        go_cut [60] (fun s60 wx => ∃ (eV2 : Value), Mk w.heap.size n wx q ((es ++ aa.take j) ++ [⟨kind, key, val⟩]) (Sn.map n (es ++ aa.take j)) rs (Sn.leaves n (aa.take j)) (.slice Al j cl) mb' eV2 pV' ∧ Blk wx wr.heap.size 36 [b8 kind, .slice A1 key.length c1', .slice A2 val.length c2'] ∧ Below w.heap.size w wx)
        case first =>
          obtain ⟨Lk, hLk1, hLk2⟩ := HR.out.1.ents
          have hq := HR.out.1.blk
          have hwd := gro HR.out.2 HD.out.2
          have hnl : (es ++ aa.take j).length < 1048576 := by rw [List.length_append, List.length_take]; omega
          obtain ⟨N, hN⟩ : ∃ N, N = (es ++ aa.take j).length := ⟨_, rfl⟩
          rw [← hN] at hLk2 hnl
          have HNN := hid hN
          clear hN
          have hoc : ∀ (a b : Value), a.oneCell' = true → b.oneCell' = true → ∀ v ∈ [b8 kind, a, b], v.oneCell' = true := fun a b ha hb v hv => by
            simp only [List.mem_cons, List.not_mem_nil, or_false] at hv
            rcases hv with rfl | rfl | rfl
            · rfl
            · exact ha
            · exact hb
          have HS : ∀ w', Below wd.heap.size wd w' → w'.cell? ⟨wr.heap.size, 0, none⟩ = some (b8 kind) ∧ w'.cell? ⟨wr.heap.size, 1, none⟩ = some (.slice A1 key.length c1') ∧ w'.cell? ⟨wr.heap.size, 2, none⟩ = some (.slice A2 val.length c2') := fun w' h => by
            have h := HD.out.1.grown h
            exact ⟨by rw [h.cell]; rfl, by rw [h.cell]; rfl, by rw [h.cell]; rfl⟩
          have hd : Below wd.heap.size wd wd.drew := (Below.refl _ _).drew
          have kq : wd.cell? ⟨q, 2, none⟩ = some eV' := by rw [(hq.grown HD.out.2).cell]; rfl
          have HT := hid (And.intro HS (And.intro hd (And.intro hq (And.intro hLk1 (And.intro hLk2 (And.intro hwd (And.intro hnl hoc)))))))
          clear HS hd hq hLk1 hLk2 hwd hnl hoc
          rw [show Op.load 22 (.tmp 55) = ldEnts from rfl]
          go_region_held3 (fun w' => w'.cell? ⟨wr.heap.size, 0, none⟩ = some (b8 kind) ∧ w'.cell? ⟨wr.heap.size, 1, none⟩ = some (.slice A1 key.length c1') ∧ w'.cell? ⟨wr.heap.size, 2, none⟩ = some (.slice A2 val.length c2'))
            (first | exact HT.out.1 _ HT.out.2.1 | exact HT.out.1 _ H7.out.1 | exact HT.out.1 _ (H7.out.1.alloc H7.out.1.size _) | exact HC3.out _ HN.out.1 | exact HC3.out _ (HN.out.2.2.1 _))
            (first
              | (refine step_ap_own (.tmp 56) (.tmp 59) 22 Tryz.underlying22 info_entry rfl (by decide) (own_grown HT.out.2.2.2.2.1 (gro HD.out.2 (H7.out.1.alloc H7.out.1.size _))) 1 1 (news := [b8 kind, .slice A5 key.length c5, .slice A6 val.length c6]) rfl (Rd.of _ (Blk.new w7 _ _).whole) (HT.out.2.2.2.2.2.2.2 _ _ rfl rfl) (by have := HT.out.2.2.2.2.2.2.1; simp only [maxLen]; omega) (by have := HT.out.2.2.2.2.2.2.1; omega) (gro HT.out.2.2.2.2.2.1 (H7.out.1.alloc H7.out.1.size _)).size rfl rfl rfl rfl ?_
                 intro v9 w9 hn1 hn2 hn3
                 obtain ⟨A9, c9, rfl, hr9, hc9⟩ := rd_own hn1
                 have hst := HR.out.1.entry_step HT.out.2.2.2.1 HNN.out HT.out.2.2.2.2.1 (gro HD.out.2 (H7.out.1.alloc H7.out.1.size _)) (HD.out.1.grown (H7.out.1.alloc H7.out.1.size _)) (H7.out.2.stay (Stay.of_grown (below_box _ _))) hn1 hn2 HR.out.2 HR.out.2.size
                 have k9 := hst.2.1.1
                 have f9 := hst.2.1.2
                 have HN := hid hst
                 clear hn1 hn2 hn3 hr9 hc9 hst)
              | (go_at_call 71
                 refine (stwin_any _ ⟨kind, key, val⟩ _ (HX.out.2.2.2.1.grown (gro HT.out.2.2.2.2.2.1 HT.out.2.1)) (by show key.length < _; omega) (by show val.length < _; omega) (Nat.le_trans HLO.out (gro HT.out.2.2.2.2.2.1 HT.out.2.1).size)).mono ?_
                 rintro e w7 ⟨y, rfl, hb7, hy⟩
                 have hy2 := hy
                 obtain ⟨A5, c5, A6, c6, rfl, -⟩ := hy2
                 have h7 := gro HT.out.2.1 hb7
                 have kq7 : w7.cell? ⟨q, 2, none⟩ = some eV' := (by rw [(HT.out.2.2.1.grown (gro HD.out.2 h7)).cell]; rfl)
                 have kq7a : ∀ o, (w7.alloc o).cell? ⟨q, 2, none⟩ = some eV' := (fun o => by rw [((HT.out.2.2.1.grown (gro HD.out.2 h7)).alloc o).cell]; rfl)
                 have hbsE := bs_run (P := Tryz.prog) 22 36 [b8 kind, .slice A5 key.length c5, .slice A6 val.length c6] 3 (by decide) rfl (by decide) Tryz.underlying22 (by kernel_rfl)
                 have H7 := hid (And.intro h7 hy)
                 clear hb7 hy h7))
          all_goals
            go_wp2_with fail
            go_meet
            exact ⟨_, HN.out.2.2.2.1, HN.out.2.2.1 _, HN.out.2.2.2.2⟩
        case rest =>
          obtain ⟨eV2, hmk, hbx, hbl⟩ := hcut
          have hxr := hbx.whole
          have hsl := Dg.sum_length n (Dg.leafIn (En.bytes ⟨kind, key, val⟩)) h2
          have hdl : ∀ x ∈ [(Dg.leaf n (En.bytes ⟨kind, key, val⟩)).map b8], x.length = 32 := fun x hx => by
            rw [List.mem_singleton] at hx; subst hx; unfold Dg.leaf; simp [hsl]
          have hdl1 : [(Dg.leaf n (En.bytes ⟨kind, key, val⟩)).map b8].flatten.length = 1 * 32 := by simp [Dg.leaf, hsl]
          have hone : ∀ v ∈ [(Dg.leaf n (En.bytes ⟨kind, key, val⟩)).map b8].flatten, v.oneCell' = true := fun v hv => one_b8 (Dg.leaf n (En.bytes ⟨kind, key, val⟩)) v (by simpa using hv)
          have hll : (Sn.leaves n (aa.take j)).length = j := by simp [Sn.leaves]; omega
          have h63 : (Sn.leaves n (aa.take j)).length + 1 ≤ maxLen := by rw [hll]; simp only [maxLen]; omega
          have hby : ((Sn.leaves n (aa.take j)).length + 1) * 32 ≤ 140737488355328 := by rw [hll]; omega
          have HLL := hid hll
          have HD2 := hid (And.intro hmk (And.intro hbx hbl))
          clear hmk hbx hbl hsl hll
          go_upto_if 71 with (first
            | ((with_reducible refine ld_mid 36 (.tmp 11) wr.heap.size 0 _ 3 _ rfl hxr Tryz.underlying36 rfl (by kernel_rfl) ?_ ?_ ?_ ?_); rfl; rfl; rfl)
            | (go_at_call 72
               refine (sleaf_ok b tb n h1 h2 (Sn.leaves n es) _ ⟨kind, key, val⟩ wc (HA.out.1.below HD2.out.2.2) (by rw [(HA.out.2.2.2.2.1.grown HD2.out.2.2).cell]; rfl) (HA.out.2.2.2.2.2.1.grown HD2.out.2.2) (HX.out.2.2.2.1.grown HD2.out.2.2) HX.out.2.1).mono ?_
               rintro e w10 ⟨rfl, hb10⟩
               have hb11 := hb10.alloc hb10.size (.cells [(Dg.leaf n (En.bytes ⟨kind, key, val⟩)).map b8].flatten.toArray 40)
               have hown11 := own_grown HD2.out.1.leaves hb11
               have hr11 := Rd.of _ (Blk.new w10 40 [(Dg.leaf n (En.bytes ⟨kind, key, val⟩)).map b8].flatten).whole
               have hbs11 := (gro HD2.out.2.2 hb11).size
               have H10 := hid (And.intro hb11 (And.intro hown11 hr11))
               clear hb10 hb11 hown11 hr11)
            | ((with_reducible refine bs_own 105 40 1 #[(0, .tmp 66)] [(Dg.leaf n (En.bytes ⟨kind, key, val⟩)).map b8] 32 (by decide) hdl rfl (by decide) (by decide) Tryz.underlying105 (by kernel_rfl) ?_ ?_ ?_ ?_); rfl; rfl; rfl)
            | ((with_reducible refine ap_own (.tmp 63) (.tmp 67) 105 Tryz.underlying105 info_dg rfl (by decide) H10.out.2.1 1 1 hdl1 H10.out.2.2 hone h63 hby hbs11 ?_ ?_ ?_ ?_ ?_); rfl; rfl; rfl; rfl
               intro v11 w11 hn1 hn2 hn3 hn4
               obtain ⟨A11, c11, rfl, hr9, hc9⟩ := rd_own hn1
               have hst := HD2.out.1.leaf_step H10.out.1 HD2.out.2.1 (Dg.leaf n (En.bytes ⟨kind, key, val⟩)) hn1 hn2 HD2.out.2.2
               have hc0 : w11.cell? ⟨wr.heap.size, 0, none⟩ = some (b8 kind) := (by rw [hst.1.cell]; rfl)
               have H11 := hid hst
               clear hn1 hn2 hn3 hn4 hr9 hc9 hst))
          have hml : (Sn.map n (es ++ aa.take j)).length + 1 < 1048576 := by have := map_len n (es ++ aa.take j); rw [List.length_append, List.length_take] at this; omega
          have HML := hid hml
          clear hml hxr hdl hdl1 hone h63 hby hbs11
          have hlen64 : key.length ≤ 64 ∧ val.length ≤ 256 := HX.out.2.2.1
          have hn8 : (n8 kind == 1) = decide (kind = 1) := by
            by_cases h : kind = 1
            · subst h; rfl
            · rw [decide_eq_false h, beq_eq_false_iff_ne]
              intro h'
              exact h (UInt8.toNat_inj.1 (by have : kind.toNat = 1 := (by unfold n8 at h'; omega); rw [this]; rfl))
          by_cases hk : kind = 1
          · rw [decide_eq_true hk] at hn8
            rw [hn8]
            have HK := hid hk
            clear hk hn8
            go_upto_region 16 with fail
            have HS : ∀ w', Below w11.heap.size w11 w' → w'.cell? ⟨wr.heap.size, 0, none⟩ = some (b8 kind) ∧ w'.cell? ⟨wr.heap.size, 1, none⟩ = some (.slice A1 key.length c1') ∧ w'.cell? ⟨wr.heap.size, 2, none⟩ = some (.slice A2 val.length c2') := fun w' h => HC3.out _ (H11.out.1.grown h)
            have hd : Below w11.heap.size w11 w11.drew := (Below.refl _ _).drew
            have kq : w11.cell? ⟨q, 1, none⟩ = some (ptr mb') := by rw [H11.out.2.1.blk.cell]; rfl
            have HT := hid (And.intro HS (And.intro hd (gro H11.out.2.2 hd)))
            clear HS hd hc0
            rw [show Op.load 98 (.tmp 76) = ldPairs from rfl]
            go_region_held3 (fun w' => w'.cell? ⟨wr.heap.size, 0, none⟩ = some (b8 kind) ∧ w'.cell? ⟨wr.heap.size, 1, none⟩ = some (.slice A1 key.length c1') ∧ w'.cell? ⟨wr.heap.size, 2, none⟩ = some (.slice A2 val.length c2'))
              (first | exact HT.out.1 _ HT.out.2.1 | exact HC3.out _ H12.out.1 | exact HC3.out _ (H12.out.2.2.1 _))
              (first
                | (go_at_call 73
                   refine (hput_ok mb' n h1 h2 (Sn.map n (es ++ aa.take j)) key val A1 A2 c1' c2' _ (HA.out.1.below HT.out.2.2) (H11.out.2.1.map.grown HT.out.2.1) (HX.out.2.2.2.2.1.grown HT.out.2.2) (HX.out.2.2.2.2.2.grown HT.out.2.2) hlen64.1 hlen64.2 HML.out).mono ?_
                   rintro e w12 ⟨mb2, rfl, hb12, hm12⟩
                   have hst := H11.out.2.1.put_step (gro HT.out.2.1 hb12) hm12 H11.out.1 H11.out.2.2
                   have k12 := hst.2.1.1
                   have f12 := hst.2.1.2
                   have H12 := hid hst
                   clear hb12 hm12 hst))
            go_wp2_with fail
            go_roundg (gk - 1)
            case measure => omega
            case rel =>
              have hes : es ++ aa.take (j + 1) = (es ++ aa.take j) ++ [⟨kind, key, val⟩] := by rw [HX.out.1, List.append_assoc]
              have hls : Sn.leaves n (aa.take (j + 1)) = Sn.leaves n (aa.take j) ++ [Dg.leaf n (En.bytes ⟨kind, key, val⟩)] := by rw [HX.out.1]; simp [Sn.leaves]
              have hmp : Sn.map n (es ++ aa.take (j + 1)) = Hm.ins n ⟨key, val⟩ (Sn.map n (es ++ aa.take j)) := by rw [hes, Sn.map_snoc]; unfold Sn.step; simp only [HK.out, if_true]
              rw [hes] at hmp
              refine ⟨j + 1, mb2, eV2, pV', A11, c11, by omega, by go_num, by rw [HLL.out], ?_, H12.out.2.2.2.2⟩
              rw [hes, hls, hmp, ← HLL.out]
              simpa only [HLL.out] using H12.out.2.2.2.1
          · rw [decide_eq_false hk] at hn8
            rw [hn8]
            have HK := hid hk
            clear hk hn8
            go_upto_region 17 with fail
            have HS : ∀ w', Below w11.heap.size w11 w' → w'.cell? ⟨wr.heap.size, 0, none⟩ = some (b8 kind) ∧ w'.cell? ⟨wr.heap.size, 1, none⟩ = some (.slice A1 key.length c1') ∧ w'.cell? ⟨wr.heap.size, 2, none⟩ = some (.slice A2 val.length c2') := fun w' h => HC3.out _ (H11.out.1.grown h)
            have hd : Below w11.heap.size w11 w11.drew := (Below.refl _ _).drew
            have kq : w11.cell? ⟨q, 1, none⟩ = some (ptr mb') := by rw [H11.out.2.1.blk.cell]; rfl
            have HT := hid (And.intro HS (And.intro hd (gro H11.out.2.2 hd)))
            clear HS hd hc0
            rw [show Op.load 98 (.tmp 91) = ldPairs2 from rfl]
            go_region_held3 (fun w' => w'.cell? ⟨wr.heap.size, 0, none⟩ = some (b8 kind) ∧ w'.cell? ⟨wr.heap.size, 1, none⟩ = some (.slice A1 key.length c1') ∧ w'.cell? ⟨wr.heap.size, 2, none⟩ = some (.slice A2 val.length c2'))
              (first | exact HT.out.1 _ HT.out.2.1 | exact HC3.out _ H12.out.1 | exact HC3.out _ (H12.out.2.2.1 _))
              (first
                | (go_at_call 74
                   refine (hdelete_ok mb' n h1 h2 (Sn.map n (es ++ aa.take j)) key A1 c1' _ (HA.out.1.below HT.out.2.2) (H11.out.2.1.map.grown HT.out.2.1) (HX.out.2.2.2.2.1.grown HT.out.2.2) hlen64.1).mono ?_
                   rintro e w12 ⟨mb2, rfl, hb12, hm12⟩
                   have hst := H11.out.2.1.put_step (gro HT.out.2.1 hb12) hm12 H11.out.1 H11.out.2.2
                   have k12 := hst.2.1.1
                   have f12 := hst.2.1.2
                   have H12 := hid hst
                   clear hb12 hm12 hst))
            go_wp2_with fail
            go_roundg (gk - 1)
            case measure => omega
            case rel =>
              have hes : es ++ aa.take (j + 1) = (es ++ aa.take j) ++ [⟨kind, key, val⟩] := by rw [HX.out.1, List.append_assoc]
              have hls : Sn.leaves n (aa.take (j + 1)) = Sn.leaves n (aa.take j) ++ [Dg.leaf n (En.bytes ⟨kind, key, val⟩)] := by rw [HX.out.1]; simp [Sn.leaves]
              have hmp : Sn.map n (es ++ aa.take (j + 1)) = Hm.del key (Sn.map n (es ++ aa.take j)) := by rw [hes, Sn.map_snoc]; unfold Sn.step; simp only [HK.out, if_false]
              rw [hes] at hmp
              refine ⟨j + 1, mb2, eV2, pV', A11, c11, by omega, by go_num, by rw [HLL.out], ?_, H12.out.2.2.2.2⟩
              rw [hes, hls, hmp, ← HLL.out]
              simpa only [HLL.out] using H12.out.2.2.2.1
      · obtain rfl : j = aa.length := by omega
        have hmk := HR.out.1
        rw [List.take_length] at hmk
        have hlv : (Sn.leaves n aa).length = aa.length := by simp [Sn.leaves]
        have hfit : Fits n (Sn.leaves n aa) := fun d hd => by
          obtain ⟨e, he, rfl⟩ := List.mem_map.1 hd
          exact ⟨Dg.sum_length _ _ h2, Dg.form_sum _ _ h2⟩
        have hta : Calls Tryz.prog 75 #[ptr tb, .slice Al aa.length cl] wr fun e w' => ∃ b', e = .returned (.tuple #[ptr b', .int .i64 0]) ∧ Below wr.heap.size wr w' ∧ TreeAt w' b' n (Sn.leaves n (es ++ aa)) := by
          obtain ⟨A', c', e', hr', -⟩ := rd_own hmk.leaves
          simp only [Value.slice.injEq] at e'
          obtain ⟨rfl, -, rfl⟩ := e'
          have := tappend_ok tb n h1 h2 (Sn.leaves n es) (Sn.leaves n aa) Al cl wr (HA.out.2.2.2.2.2.1.grown HR.out.2) (HA.out.1.below HR.out.2) hfit hr' (by simp only [Sn.leaves, List.length_map]; omega)
          rw [hlv, show Sn.leaves n es ++ Sn.leaves n aa = Sn.leaves n (es ++ aa) from by simp [Sn.leaves]] at this
          exact this
        have hb0 : wr.cell? ⟨b, 0, none⟩ = some (ptr tb) := by rw [(HA.out.2.2.2.2.1.grown HR.out.2).cell]; rfl
        have HTA := hid (And.intro hta hmk)
        clear hta hmk hlv hfit
        go_wp2_with (first
          | (go_at_call 67
             refine (HF.out.2).mono ?_
             rintro e w14 ⟨rfl, hb14, hs14⟩
             have H14 := hid (And.intro hb14 hs14)
             clear hb14 hs14)
          | (go_at_call 75
             refine (HTA.out.1).mono ?_
             rintro e w13 ⟨tb2, rfl, hb13, ht13⟩
             have hb13w := set_below HTA.out.2.ge (gro HR.out.2 hb13) 0 (ptr tb2)
             have hf := HTA.out.2.finish rfl hb13 ht13 h1 h2 (HA.out.1.below hb13w) HA.out.2.2.2.2.2.2.2.2.1 (by rw [List.length_append]; omega) (by omega)
             have k13 := hf.1.1
             have f13 := hf.1.2
             have HF := hid hf
             have H13 := hid hb13w
             clear hb13 ht13 hf hb13w))
        go_ret2
        exact ⟨q, rfl, H13.out.trans H14.out.1, H14.out.2⟩
end Go.Proofs.YtpnakfeafekneaaGreatDoor

namespace Go.Proofs.YtpnakfeafekneaaGreatDoor
open Go.RowKit
theorem snroot_any [Inhabited LoT] {S n q : Nat} {es : List Ent} {rs : List Rt} (w : World) (h : SnapAt S w n q es rs) (hn : rs.length < 1048576) :
    Calls Tryz.prog 29 #[ptr q] w fun e w' => e = .returned (.agg (rtCells (Sn.root n es)).toArray) ∧ Below w.heap.size w w' := by
  obtain ⟨tb, mb, A, c, L, Ap, cp, h1, h2, h3, ⟨h4, h5, h6⟩, ⟨h7, h8, h8'⟩, h9, h10⟩ := h
  exact sroot_any q Ap cp rs (Sn.root n es) w (by rw [h1.cell]; rfl) h7 h10 h9 hn
theorem SnapAt.len [Inhabited LoT] {S n q : Nat} {es : List Ent} {rs : List Rt} {w : World} (h : SnapAt S w n q es rs) : (rtCells (Sn.root n es)).length = 65 := by
  obtain ⟨tb, mb, A, c, L, Ap, cp, h1, h2, h3, ⟨h4, h5, h6⟩, ⟨h7, h8, h8'⟩, h9, h10⟩ := h
  exact rt_len (h10 _ (List.mem_of_getLast? h9))
theorem SnapAt.row [Inhabited LoT] {S B n q k : Nat} {es : List Ent} {rs : List Rt} {w w' : World} {v : Value} {xs : List Value} (h : SnapAt S w n q es rs) (ho : w.ownsRow B 42 65 v k xs) (hlt : ∀ k, v.ownBlock = some k → k < S) (hg : w.grownBy w' v.ownBlock) : SnapAt S w' n q es rs := by
  obtain ⟨tb, mb, A, c, L, Ap, cp, h1, h2, h3, ⟨h4, h5, h6⟩, ⟨h7, h8, h8'⟩, h9⟩ := h
  have s := But.append ho hg
  have p := s.pure (by decide)
  have hk := kept_of_grownBy hg
  refine ⟨tb, mb, A, c, L, Ap, cp, s.blk h1 (by decide), h2.stay p, h3.stay p, ⟨s.rd h4 h6 (by decide), h5.stay p, s.tyd h6 (by decide)⟩, ⟨h7.kept hk (fun a ha _ hs => ?_), fun a ha => ?_, h8'⟩, h9⟩
  · have := h8' a ha; have := hlt _ hs; omega
  · obtain ⟨cc, fz, hh⟩ := h8 a ha
    refine ⟨cc, fz, ?_⟩
    rw [hk.block a.block ?_ (fun hs => by have := h8' a ha; have := hlt _ hs; omega)]
    · exact hh
    · rcases Nat.lt_or_ge a.block w.heap.size with hlt | hge
      · exact hlt
      · rw [Array.getElem?_eq_none hge] at hh; cases hh
def Rl (n : Nat) (es : List Ent) (k : Nat) : List Rt := (List.range (k + 1)).map fun i => Sn.root n (es.take i)
theorem Rl_len (n : Nat) (es : List Ent) (k : Nat) : (Rl n es k).length = k + 1 := by simp [Rl]
theorem Rl_succ (n : Nat) (es : List Ent) (k : Nat) : Rl n es (k + 1) = Rl n es k ++ [Sn.root n (es.take (k + 1))] := by
  unfold Rl
  rw [List.range_succ (n := k + 1), List.map_append]
  rfl
theorem Rl_zero (n : Nat) (es : List Ent) : Rl n es 0 = [Sn.root n []] := by simp [Rl]
theorem own_lit (w : World) (B : Nat) (t : TypeId) (s : Nat) (cs : List Value) (hl : cs.length = 1 * s) (hB : B ≤ w.heap.size) : (w.alloc (.cells cs.toArray t)).ownsRow B t s (.slice (some ⟨w.heap.size, 0, none⟩) 1 1) 1 cs :=
  ⟨hl, .inr ⟨_, 1, cs.toArray, rfl, hB, heap_alloc_new _ _, Nat.le_refl _, by decide, by simp [hl], by rw [← hl]; simp⟩⟩
def En.all (es : List Ent) : Nat := es.foldl (fun e a => En.least e (En.check a)) 0
theorem En.one_ok (F : Nat) (hF : F + 1 < 18446744073709551616) (e : Ent) (h : En.check e = 0) : En.bchk F [e] = 0 := by
  unfold En.bchk En.bfirst
  rw [if_neg (by simp; omega)]
  simp [h, En.least]
theorem En.all_zero {es : List Ent} (h : En.all es = 0) : ∀ a ∈ es, En.check a = 0 := (En.fold_zero es 0 h).2
end Go.Proofs.YtpnakfeafekneaaGreatDoor
