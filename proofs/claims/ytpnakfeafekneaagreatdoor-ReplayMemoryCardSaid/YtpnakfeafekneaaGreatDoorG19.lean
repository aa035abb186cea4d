/- Part 19 of this proof: T7, T8, R4. -/
import Derived.Test.YtpnakfeafekneaaGreatDoorG15
import Derived.Test.YtpnakfeafekneaaGreatDoorG18
set_option linter.unusedSimpArgs false
set_option linter.unusedVariables false
namespace Go.Proofs.YtpnakfeafekneaaGreatDoor
open Go.RowKit
theorem node_fill (parts : List (Nat × Value)) : Tryz.prog.built 243 parts = Instr.fill ((#[(0, 32), (32, 1), (33, 1), (34, 1)] : Array (Nat × Nat))[·]?) (List.replicate 32 (b8 0) ++ [Value.pointer none, Value.pointer none, Value.int .u64 0]).toArray parts := by kernel_rfl
theorem splice_head (D X Y : List Value) (h : X.length = D.length) : splice (X ++ Y) 0 D = D ++ Y := by simp [splice, ← h]
theorem splice_tail (D X Y : List Value) (o : Nat) (h : D.length ≤ o) : splice (D ++ X) o Y = D ++ splice X (o - D.length) Y := by
  unfold splice
  rw [List.take_append, List.take_of_length_le (by omega), List.drop_append, List.drop_eq_nil_of_le (show D.length ≤ o + Y.length by omega), List.nil_append, List.append_assoc, show o + Y.length - D.length = o - D.length + Y.length by omega]
theorem node_built2 (d : List UInt8) (hd : d.length = 32) : Tryz.prog.built 243 [(0, dg d), (3, .int .u64 1)] = some (nodeCells d (.pointer none) (.pointer none) 1).toArray := by
  have hD : (d.map b8).length = 32 := by simp [hd]
  rw [node_fill, fill_step _ _ 0 _ _ 0 32 rfl (d.map b8) rfl hD (by simp), splice_head _ _ _ (by rw [hD]; simp), fill_step _ _ 3 _ _ 34 1 rfl [.int .u64 1] rfl rfl (by simp [hd]), splice_tail _ _ _ _ (by omega), hD]
  rfl
theorem node_built4 (d : List UInt8) (hd : d.length = 32) (l r : Nat) (s : Nat) : Tryz.prog.built 243 [(0, dg d), (1, ptr l), (2, ptr r), (3, .int .u64 s)] = some (nodeCells d (ptr l) (ptr r) s).toArray := by
  have hD : (d.map b8).length = 32 := by simp [hd]
  rw [node_fill, fill_step _ _ 0 _ _ 0 32 rfl (d.map b8) rfl hD (by simp), splice_head _ _ _ (by rw [hD]; simp),
    fill_step _ _ 1 _ _ 32 1 rfl [ptr l] rfl rfl (by simp [hd]), splice_tail _ _ _ _ (by omega), hD,
    fill_step _ _ 2 _ _ 33 1 rfl [ptr r] rfl rfl (by simp [hd, splice]), splice_tail _ _ _ _ (by omega), hD,
    fill_step _ _ 3 _ _ 34 1 rfl [.int .u64 s] rfl rfl (by simp [hd, splice]), splice_tail _ _ _ _ (by omega), hD]
  rfl
structure TrO (B b n : Nat) (w : World) (sz : Nat) (bs : List Nat) (ts : List MT) (v : Value) : Prop where
  blk : Blk w b 180 [.int .i64 n, .int .u64 sz, v]
  own : w.ownsRow B 196 1 v bs.length (bs.map ptr)
  nodes : NodesAt w bs ts
  hB : B ≤ b
theorem node_info : (Tryz.prog.info? 196).map (fun i => (i.zero, i.size, i.bytes)) = some (some (.pointer none), 1, 8) := by kernel_rfl
theorem one_ptr {nb : Nat} : ∀ u ∈ [ptr nb], u.oneCell' = true := by intro u hu; rw [List.mem_singleton] at hu; subst hu; rfl
theorem TrO.grown {B b n sz : Nat} {w w' : World} {bs : List Nat} {ts : List MT} {v : Value} (h : TrO B b n w sz bs ts v) (hb : Below w.heap.size w w') : TrO B b n w' sz bs ts v :=
  ⟨h.blk.grown hb, own_grown h.own hb, h.nodes.stay (NodesStay.of_grown hb), h.hB⟩
theorem own_take {w : World} {B : Nat} {e : TypeId} {v : Value} {n : Nat} {xs : List Value} (h : w.ownsRow B e 1 v n xs) (k : Nat) (hk : k < n) : ∃ g cap, v = .slice (some ⟨g, 0, none⟩) n cap ∧ n ≤ cap ∧ w.rangeAt g 0 xs ∧ w.ownsRow B e 1 (.slice (some ⟨g, 0, none⟩) k cap) k (xs.take k) := by
  obtain ⟨A, c, hv, hr, hc⟩ := rd_own h
  rcases h.2 with ⟨_, h0⟩ | ⟨g, cap, cur, hv2, hB, hh, hn, hm, hs, ht⟩
  · omega
  · have hne : xs ≠ [] := fun e => by have := h.1; rw [e] at this; simp at this; omega
    obtain ⟨g2, o2, hA, hrr⟩ := hr hne
    rw [hv2] at hv
    injection hv with hv1 _ hv3
    rw [hA] at hv1
    cases hv1
    refine ⟨g, cap, hv2, hn, hrr, by rw [List.length_take, h.1]; omega, .inr ⟨g, cap, cur, rfl, hB, hh, by omega, hm, hs, ?_⟩⟩
    rw [← ht, List.take_take, Nat.mul_one, Nat.mul_one, Nat.min_eq_left (by omega)]
theorem NodesAt.take {w : World} {bs : List Nat} {ts : List MT} (h : NodesAt w bs ts) (k : Nat) : NodesAt w (bs.take k) (ts.take k) :=
  ⟨by rw [List.length_take, List.length_take, h.len], fun i b t h1 h2 => by
    rw [List.getElem?_take] at h1 h2
    split at h1
    · rename_i hi; rw [if_pos hi] at h2; exact h.at_ i b t h1 h2
    · cases h1⟩
theorem NodesAt.snoc {w : World} {bs : List Nat} {ts : List MT} {nb : Nat} {x : MT} (h : NodesAt w bs ts) (hn : NodeAt w nb x) : NodesAt w (bs ++ [nb]) (ts ++ [x]) :=
  ⟨by simp [h.len], fun i b t h1 h2 => by
    have hl := h.len
    rcases Nat.lt_or_ge i bs.length with hi | hi
    · rw [List.getElem?_append_left hi] at h1
      rw [List.getElem?_append_left (by omega)] at h2
      exact h.at_ i b t h1 h2
    · rw [List.getElem?_append_right hi] at h1
      rw [List.getElem?_append_right (by omega)] at h2
      rcases Nat.eq_zero_or_pos (i - bs.length) with h0 | h0
      · rw [h0] at h1
        rw [show i - ts.length = 0 by omega] at h2
        simp at h1 h2; subst h1; subst h2; exact hn
      · rw [List.getElem?_eq_none (by simp; omega)] at h1; cases h1⟩
theorem TrO.end_ {B b n sz nb : Nat} {x : MT} {w w9 w10 : World} {bs : List Nat} {ts : List MT} {V v2 : Value} {o : Obj} (h : TrO B b n w9 sz bs ts V) (hn : NodeAt w9 nb x) (hb : Below B w w9) (hB : B ≤ w9.heap.size)
    (hown : w10.ownsRow B 196 1 v2 (bs.length + 1) (bs.map ptr ++ [ptr nb])) (hg : (w9.alloc o).grownBy w10 V.ownBlock) (hat : v2.ownBlock = V.ownBlock ∨ v2.ownBlock = some (w9.alloc o).heap.size) (hbk : Blk w10 b 180 [.int .i64 n, .int .u64 sz, V]) :
    Below B w ((w10.setCell ⟨b, 2, none⟩ v2).setCell ⟨b, 1, none⟩ (.int .u64 ((sz : Int) + 1))) ∧ TrO B b n ((w10.setCell ⟨b, 2, none⟩ v2).setCell ⟨b, 1, none⟩ (.int .u64 ((sz : Int) + 1))) (sz + 1) (bs ++ [nb]) (ts ++ [x]) v2 := by
  have hbx := below_box w9 o
  have hk := kept_of_grownBy hg
  have hk2 : Kept (· = b) w10 ((w10.setCell ⟨b, 2, none⟩ v2).setCell ⟨b, 1, none⟩ (.int .u64 ((sz : Int) + 1))) := ((Kept.refl _ _).set1 2 _).set1 1 _
  have hblt := h.blk.lt
  have hst1 : NodesStay w9 w10 := fun k cs hc => hk.blk (hc.grown hbx) (fun e => own_ne h.own hc (by decide) e)
  have hst : NodesStay w9 ((w10.setCell ⟨b, 2, none⟩ v2).setCell ⟨b, 1, none⟩ (.int .u64 ((sz : Int) + 1))) := fun k cs hc => stay_of_kept hk2 hbk (by decide) k cs (hst1 k cs hc)
  refine ⟨?_, ?_, ?_, ?_, h.hB⟩
  · have b1 : Below B w (w9.alloc o) := hb.trans (hbx.mono hB)
    have b2 : Below B w w10 := hk.step b1 (Nat.le_trans hB hbx.size) (fun k hkB e => by have := (h.own.lt k e).1; omega)
    exact hk2.step b2 (Nat.le_trans (Nat.le_trans hB hbx.size) hk.size) (fun k hkB e => by have := h.hB; have e' : k = b := e; omega)
  · exact (hbk.set_ 2 v2).set_ 1 _
  · have := own_kept (S := (· = b)) hown hk2 (fun k hkv e => by
      have e' : k = b := e
      subst e'
      rcases hat with h1 | h1
      · exact own_ne h.own h.blk (by decide) (h1 ▸ hkv)
      · rw [h1] at hkv
        have := Option.some.inj hkv
        have := hbx.size
        omega)
    rw [List.length_append, List.map_append]
    exact this
  · exact (h.nodes.stay hst).snoc (hn.stay hst)
theorem TrO.shrink {B b n sz g cap : Nat} {w w5 : World} {bs : List Nat} {ts : List MT} {V : Value} {k : Nat} (h : TrO B b n w sz bs ts V) (hk5 : Kept (· = b) w w5) (hb5 : Blk w5 b 180 [.int .i64 n, .int .u64 sz, .slice (some ⟨g, 0, none⟩) k cap]) (hkl : k ≤ bs.length)
    (ho : w.ownsRow B 196 1 (.slice (some ⟨g, 0, none⟩) k cap) k ((bs.map ptr).take k)) : TrO B b n w5 sz (bs.take k) (ts.take k) (.slice (some ⟨g, 0, none⟩) k cap) := by
  have hl : (bs.take k).length = k := by rw [List.length_take]; omega
  refine ⟨hb5, ?_, (h.nodes.stay (stay_of_kept hk5 h.blk (by decide))).take k, h.hB⟩
  rw [hl, List.map_take]
  exact own_kept (S := (· = b)) ho hk5 (fun j hj e => by have e' : j = b := e; subst e'; exact own_ne ho h.blk (by decide) hj)
theorem Words.low {B : Nat} {w w' : World} (h : Words w) (hb : Below B w w') (hB : 0 < B) : Words w' := ⟨fun i hi => (hb.cell (p := ⟨_, i, none⟩) hB).trans (h.1 i hi), Nat.lt_of_lt_of_le h.2 hb.size⟩
theorem snoc_of {α : Type} {ts : List α} {r : α} (hr : ts[ts.length - 1]? = some r) : ts = ts.take (ts.length - 1) ++ [r] := by
  have hl := (List.getElem?_eq_some_iff.1 hr).1
  have := List.take_succ_eq_append_getElem hl
  rw [(List.getElem?_eq_some_iff.1 hr).2, show ts.length - 1 + 1 = ts.length by omega, List.take_length] at this
  exact this
theorem push_stop {n : Nat} {ts : List MT} {r x : MT} (hr : ts[ts.length - 1]? = some r) (h : r.ht ≠ x.ht) : (push n ts.reverse x).reverse = ts ++ [x] := by
  have e := snoc_of hr
  have e2 : ts.reverse = r :: (ts.take (ts.length - 1)).reverse := by
    have := congrArg List.reverse e
    rw [List.reverse_append] at this
    exact this
  rw [e2, push, if_neg h, List.reverse_cons, ← e2, List.reverse_reverse]
theorem push_on {n : Nat} {ts : List MT} {r x : MT} (hr : ts[ts.length - 1]? = some r) (h : r.ht = x.ht) : push n ts.reverse x = push n (ts.take (ts.length - 1)).reverse (.node (Dg.node n r.dig x.dig) r x) := by
  have e := snoc_of hr
  have e2 : ts.reverse = r :: (ts.take (ts.length - 1)).reverse := by
    have := congrArg List.reverse e
    rw [List.reverse_append] at this
    exact this
  rw [e2, push, if_pos h]
theorem size_ht {r x : MT} : r.size = x.size ↔ r.ht = x.ht := ⟨fun h => (Nat.pow_right_inj (by decide)).1 h, fun h => by unfold MT.size; rw [h]⟩
set_option maxHeartbeats 2000000 in
set_option maxRecDepth 100000 in
theorem tadd_any (B b n sz : Nat) (hn1 : 1 ≤ n) (hn2 : n ≤ 32) (bs : List Nat) (ts : List MT) (v : Value) (ds : List (List UInt8)) (d : List UInt8) (w : World) (h : TrO B b n w sz bs ts v) (hw : Words w) (hBw : B ≤ w.heap.size) (hd : d.length = 32) (hdf : Dg.form n d = true)
    (hp : Peaks n ts) (hl : peakLeaves ts = ds) (hf : Fits n ds) (hsz : sz < 1099511627776) (hts : ts.length < 1099511627776) (hdsl : ds.length < 1099511627776) (hWB : 0 < B) :
    Calls Tryz.prog 121 #[ptr b, dg d] w fun e w' => e = .returned (.tuple #[]) ∧ Below B w w' ∧ ∃ bs' v', TrO B b n w' (sz + 1) bs' (push n ts.reverse (.leaf d)).reverse v' := by
  have hdl : (d.map b8).length = 32 := by simp [hd]
  have hnb := node_built2 d hd
  have hbx := Blk.new w 40 (d.map b8)
  have HD := hid (And.intro hdl hnb)
  have HT := hid (And.intro h (And.intro hp (And.intro hl (And.intro hf hdf))))
  clear h hp hl hf hdl hnb hdf
  go_enter Tryz.func121, Tryz.ntmps121
  go_upto_region 1 with fail
  refine wp_world (fun w' => Blk w' w.heap.size 40 (d.map b8) ∧ Below w.heap.size w w') ⟨hbx, below_box _ _⟩ ?_
  clear hbx
  rintro w1 ⟨hb1, hbl1⟩
  have hr1 := hb1.whole
  have HB := hid (And.intro hb1 hbl1)
  clear hb1 hbl1
  go_wp2_with (first
    | ((with_reducible refine ld_mid 40 (.tmp 3) w.heap.size 0 _ 32 _ HD.out.1 hr1 Tryz.underlying40 rfl (by kernel_rfl) ?_ ?_ ?_ ?_); rfl; rfl; rfl)
    | ((with_reducible refine wl_build 243 #[(0, .tmp 6), (3, .const (.int .u64 1))] (nodeCells d (.pointer none) (.pointer none) 1) ?_ ?_ ?_ ?_); rfl; rfl; exact HD.out.2))
  have hnode : NodeAt (w1.alloc (.cells (nodeCells d (.pointer none) (.pointer none) 1).toArray 243)) w1.heap.size (.leaf d) := ⟨hd, Blk.new _ _ _⟩
  have hbl2 : Below w.heap.size w (w1.alloc (.cells (nodeCells d (.pointer none) (.pointer none) 1).toArray 243)) := gro HB.out.2 (below_box _ _)
  have HN := hid (And.intro hnode (And.intro (HT.out.1.grown hbl2) (hbl2.mono hBw)))
  have hall : peakLeaves ts ++ (MT.leaf d).leaves = ds ++ [d] := by rw [HT.out.2.2.1]; rfl
  have HA := hid hall
  have hfall : ∀ e ∈ ds ++ [d], e.length = 32 ∧ Dg.form n e = true := by
    intro e he
    rcases List.mem_append.1 he with he | he
    · exact HT.out.2.2.2.1 e he
    · rw [List.mem_singleton] at he; subst he; exact ⟨hd, HT.out.2.2.2.2⟩
  have hdsl : ds.length < 1099511627776 → True := fun _ => trivial
  have HFA := hid hfall
  clear hnode hbl2 hr1 hall hfall hdsl
  go_loopg [4] ts.length (fun g s4 wr => ∃ (bs' : List Nat) (ts' : List MT) (v' : Value) (nb : Nat) (x : MT), g = ts'.length ∧ s4 = ptr nb ∧ NodeAt wr nb x ∧ x.ok n ∧ TrO B b n wr sz bs' ts' v' ∧ Peaks n ts' ∧ push n ts.reverse (.leaf d) = push n ts'.reverse x ∧ Below B w wr ∧ peakLeaves ts' ++ x.leaves = ds ++ [d] ∧ ts'.length ≤ ts.length)
  case atStart => exact ⟨bs, ts, v, w1.heap.size, .leaf d, rfl, rfl, HN.out.1, trivial, HN.out.2.1, HT.out.2.1, rfl, HN.out.2.2, HA.out, Nat.le_refl _⟩
  case round =>
    clear HN HA HB
    obtain ⟨bs', ts', v', nb, x, hg, rfl, hna, hxo, htr, hpk, hpu, hbw, hlv, htl⟩ := hrel
    have hlen := htr.nodes.len
    have hfz := htr.blk.frozen 2
    have c2 : wr.cell? ⟨b, 2, none⟩ = some v' := by rw [htr.blk.cell]; rfl
    have c1 : wr.cell? ⟨b, 1, none⟩ = some (.int .u64 sz) := by rw [htr.blk.cell]; rfl
    have c0 : wr.cell? ⟨b, 0, none⟩ = some (.int .i64 n) := by rw [htr.blk.cell]; rfl
    obtain ⟨hxd, xl, xr, hxb⟩ := hna.cells
    have n34 : wr.cell? ⟨nb, 34, none⟩ = some (.int .u64 x.size) := by rw [hxb.cell]; unfold nodeCells; rw [List.getElem?_append_right (by simp [hxd])]; simp [hxd]
    have HQ := hid (And.intro hna (And.intro hxo (And.intro htr (And.intro hpk (And.intro hpu (And.intro hbw (And.intro hlv (And.intro hxb hxd))))))))
    clear hna hxo htr hpk hpu hbw hlv hxb hxd
    rcases Nat.eq_zero_or_pos ts'.length with h0 | h0
    · obtain ⟨A, c, hv, hrd, hc⟩ := rd_own HQ.out.2.2.1.own
      rw [hlen, h0] at hv
      subst hv
      have i0 : ts'.length = 0 := h0
      go_upto_region 2 with fail
      go_quiet (fail)
      have h63 : bs'.length + 1 ≤ maxLen := by unfold maxLen; omega
      have hby : (bs'.length + 1) * 8 ≤ 140737488355328 := by omega
      have hpf : (push n ts'.reverse x).reverse = ts' ++ [x] := by rw [List.eq_nil_of_length_eq_zero h0]; rfl
      have HPF := hid hpf
      clear hpf
      -- finish .slice A 0 c ;; rw [show bs'.length + 1 = 1 by omega] at hend
      have hdr : Below wr.heap.size wr (wr.drewN nq) := below_drewN (Below.refl _ _) nq
      go_upto_region 6 with fail
      refine wp_world (fun w' => TrO B b n w' sz bs' ts' (.slice A 0 c) ∧ NodeAt w' nb x ∧ Below B w w') ⟨HQ.out.2.2.1.grown hdr, HQ.out.1.grown hdr, HQ.out.2.2.2.2.2.1.trans (below_drewN (Below.refl _ _) nq)⟩ ?_
      clear c2 c1 c0 n34 hfz hdr
      rintro w9 ⟨ht9, hn9, hb9⟩
      have hbx := below_box w9 (.cells #[ptr nb] 196)
      have d2 : (w9.alloc (.cells #[ptr nb] 196)).cell? ⟨b, 2, none⟩ = some (.slice A 0 c) := by rw [(ht9.blk.grown hbx).cell]; rfl
      have e2 : w9.cell? ⟨b, 2, none⟩ = some (.slice A 0 c) := by rw [ht9.blk.cell]; rfl
      have hne : (.slice A 0 c : Value).ownBlock ≠ some b := own_ne ht9.own ht9.blk (by decide)
      have hrd : Rd (w9.alloc (.cells #[ptr nb] 196)) (some ⟨w9.heap.size, 0, none⟩) [ptr nb] := rd_box1 w9 _ _
      have hbs : B ≤ (w9.alloc (.cells #[ptr nb] 196)).heap.size := by have := hb9.size; simp; omega
      have H9 := hid (And.intro ht9 (And.intro hn9 (And.intro hb9 (And.intro (own_grown ht9.own hbx) (And.intro hne hrd)))))
      clear ht9 hn9 hb9 hbx hne hrd
      go_wp2_with (
        ((with_reducible refine ap_own (.tmp 86) (.tmp 88) 178 Tryz.underlying178 node_info rfl (by decide) H9.out.2.2.2.1 1 1 rfl H9.out.2.2.2.2.2 one_ptr h63 hby hbs ?_ ?_ ?_ ?_ ?_); rfl; rfl; rfl; rfl
         intro v2 w10 hown2 hg2 hat2 _
         have hk10 := kept_of_grownBy hg2
         have hbk10 : Blk w10 b 180 [.int .i64 n, .int .u64 sz, .slice A 0 c] := hk10.blk (H9.out.1.blk.grown (below_box w9 _)) H9.out.2.2.2.2.1
         have f10 := hbk10.frozen 2
         have c10 : w10.cell? ⟨b, 2, none⟩ = some (.slice A 0 c) := (by rw [hbk10.cell]; rfl)
         have f11 := hbk10.frozen 1
         have c11 : w10.cell? ⟨b, 1, none⟩ = some (.int .u64 sz) := (by rw [hbk10.cell]; rfl)
         have H10 := hid (And.intro hown2 (And.intro hg2 (And.intro hat2 (And.intro hk10 hbk10))))
         clear hown2 hg2 hat2 hk10 hbk10
         obtain ⟨A2, c2', rfl, -, -⟩ := rd_own H10.out.1))
      go_end0
      have hend := TrO.end_ H9.out.1 H9.out.2.1 H9.out.2.2.1 (Nat.le_trans hBw H9.out.2.2.1.size) H10.out.1 H10.out.2.1 H10.out.2.2.1 H10.out.2.2.2.2
      rw [show bs'.length + 1 = 1 by omega] at hend
      exact ⟨rfl, hend.1, bs' ++ [nb], _, by rw [HQ.out.2.2.2.2.1, HPF.out]; exact hend.2⟩
    · obtain ⟨g, cap, hv, hcap, hrr, hot⟩ := own_take HQ.out.2.2.1.own (bs'.length - 1) (by omega)
      subst hv
      have hkl : bs'.length - 1 < bs'.length := by omega
      have hkt : bs'.length - 1 < ts'.length := by omega
      obtain ⟨rb, hrb⟩ : ∃ rb, bs'[bs'.length - 1]? = some rb := ⟨bs'[bs'.length - 1], by simp⟩
      obtain ⟨r, hr⟩ : ∃ r, ts'[bs'.length - 1]? = some r := ⟨ts'[bs'.length - 1], by simp [hkt]⟩
      have hnr := HQ.out.2.2.1.nodes.at_ _ _ _ hrb hr
      obtain ⟨hrd, rl, rr, hrbk⟩ := hnr.cells
      have celt : wr.cell? ⟨g, bs'.length - 1, none⟩ = some (ptr rb) := by
        have := hrr (bs'.length - 1) (ptr rb) (by rw [List.getElem?_map, hrb]; rfl)
        rwa [Nat.zero_add] at this
      have r34 : wr.cell? ⟨rb, 34, none⟩ = some (.int .u64 r.size) := by rw [hrbk.cell]; unfold nodeCells; rw [List.getElem?_append_right (by simp [hrd])]; simp [hrd]
      have HR := hid (And.intro hnr (And.intro hrb (And.intro hr (And.intro hrr (And.intro hot (And.intro hrd hlen))))))
      clear hnr hrb hr hrr hot hrbk hrd hlen
      have j0 : (0 : Int) < (bs'.length : Int) := by omega
      have j00 : 0 < bs'.length := by omega
      have j1 : (0 : Int) ≤ (bs'.length : Int) - 1 ∧ (bs'.length : Int) - 1 < (bs'.length : Int) := by omega
      have j4 : IntKind.i64.wrap ((bs'.length : Int) - 1) = ((bs'.length - 1 : Nat) : Int) := by rw [IntKind.wrap_i64]; omega
      have j2 : ((bs'.length : Int) - 1).toNat = bs'.length - 1 := by omega
      by_cases heq : r.size = x.size
      · go_upto_region 2 with fail
        go_quiet (fail)
        go_upto_region 3 with fail
        have hdr : Below wr.heap.size wr (wr.drewN nq) := below_drewN (Below.refl _ _) nq
        refine wp_world (fun w' => Below wr.heap.size wr w') hdr ?_
        rintro w3 hw3
        have a2 : w3.cell? ⟨b, 2, none⟩ = some (.slice (some ⟨g, 0, none⟩) bs'.length cap) := by rw [hw3.cell (p := ⟨b, 2, none⟩) HQ.out.2.2.1.blk.lt]; exact c2
        have ae : w3.cell? ⟨g, bs'.length - 1, none⟩ = some (ptr rb) := by rw [hw3.cell (p := ⟨g, bs'.length - 1, none⟩) (World.block_lt_of_cell? _ _ celt)]; exact celt
        have af : w3.frozen? ⟨b, 2, none⟩ = false := (HQ.out.2.2.1.blk.grown hw3).frozen 2
        have H3 := hid hw3
        clear hw3 hdr c2 celt hfz
        go_quiet (fail)
        have hw4 : Below wr.heap.size wr (w3.drewN nq) := below_drewN H3.out nq
        go_upto_region 4 with fail
        refine wp_world (fun w' => Below wr.heap.size wr w') hw4 ?_
        clear a2 ae af hw4
        rintro w4 hw4
        have a2 : w4.cell? ⟨b, 2, none⟩ = some (.slice (some ⟨g, 0, none⟩) bs'.length cap) := by rw [(HQ.out.2.2.1.blk.grown hw4).cell]; rfl
        have af : w4.frozen? ⟨b, 2, none⟩ = false := (HQ.out.2.2.1.blk.grown hw4).frozen 2
        have H4 := hid hw4
        clear hw4
        refine wp_region_drew_tail 13 (by kernel_rfl) (by kernel_rfl) ?_
        dsimp only [List.take_succ_cons, List.take_zero, List.drop_succ_cons, List.drop_zero]
        repeat go_big_quiet_step (fail)
        refine wpQuiet_nil ?_
        rintro _ ⟨nq2, rfl⟩
        have b2 : (w4.drewN nq2).cell? ⟨b, 2, none⟩ = some (.slice (some ⟨g, 0, none⟩) bs'.length cap) := a2
        have bf : (w4.drewN nq2).frozen? ⟨b, 2, none⟩ = false := af
        clear a2 af
        go_upto_region 5 with fail
        have hkw : Kept (· = b) wr ((w4.drewN nq2).setCell ⟨b, 2, none⟩ (.slice (some ⟨g, 0, none⟩) (bs'.length - 1) cap)) := ((Kept.of_grown H4.out).drewN _).set1 2 _
        have hbw : Blk ((w4.drewN nq2).setCell ⟨b, 2, none⟩ (.slice (some ⟨g, 0, none⟩) (bs'.length - 1) cap)) b 180 [.int .i64 n, .int .u64 sz, .slice (some ⟨g, 0, none⟩) (bs'.length - 1) cap] := ((HQ.out.2.2.1.blk.grown H4.out).drewN nq2).set_ 2 _
        refine wp_world (fun w' => Kept (· = b) wr w' ∧ Blk w' b 180 [.int .i64 n, .int .u64 sz, .slice (some ⟨g, 0, none⟩) (bs'.length - 1) cap]) ⟨hkw, hbw⟩ ?_
        clear hkw hbw b2 bf
        rintro w5 ⟨hkw, hbw⟩
        have htr5 := HQ.out.2.2.1.shrink hkw hbw (by omega) HR.out.2.2.2.2.1
        have hst5 := stay_of_kept hkw HQ.out.2.2.1.blk (by decide)
        have hnr5 := HR.out.1.stay hst5
        have hnx5 := HQ.out.1.stay hst5
        have hB5 : Below B w w5 := hkw.step HQ.out.2.2.2.2.2.1 (Nat.le_trans hBw HQ.out.2.2.2.2.2.1.size) (fun j hj e => by have e' : j = b := e; have := HQ.out.2.2.1.hB; omega)
        have hW5 := hw.low hB5 hWB
        have hrt : ts'[ts'.length - 1]? = some r := by rw [← HR.out.2.2.2.2.2.2]; exact HR.out.2.2.1
        have hsn := snoc_of hrt
        have hpk := HQ.out.2.2.2.1
        rw [hsn] at hpk
        have hpl := hpk.last
        have hht := size_ht.1 heq
        have hlv := HQ.out.2.2.2.2.2.2.1
        have hlv2 : peakLeaves (ts'.take (ts'.length - 1)) ++ (r.leaves ++ x.leaves) = ds ++ [d] := by
          rw [← hlv]; conv => rhs; rw [hsn]
          simp [peakLeaves]
        have hrl : ∀ e ∈ r.leaves, e.length = 32 ∧ Dg.form n e = true := fun e he => HFA.out e (by rw [← hlv2]; simp [he])
        have hxl : ∀ e ∈ x.leaves, e.length = 32 ∧ Dg.form n e = true := fun e he => HFA.out e (by rw [← hlv2]; simp [he])
        have hfit : Fits n [r.dig, x.dig] := by
          intro e he
          rcases List.mem_cons.1 he with rfl | he
          · rw [MT.dig_log n r hpl.2.1]; exact Mt.log_fit n hn2 _ _ (Nat.le_refl _) hrl
          · rw [List.mem_singleton] at he; subst he
            rw [MT.dig_log n x HQ.out.2.1]; exact Mt.log_fit n hn2 _ _ (Nat.le_refl _) hxl
        have hxs : x.size ≤ ds.length + 1 := by
          have h1 := MT.leaves_len n x HQ.out.2.1
          have h2 := congrArg List.length hlv2
          simp only [List.length_append, List.length_cons, List.length_nil] at h2
          omega
        obtain ⟨S, hS⟩ : ∃ S, S = 2 ^ (r.ht + 1) := ⟨_, rfl⟩
        have hS2 : S = 2 * x.size := by rw [hS, hht, Nat.pow_succ]; unfold MT.size; omega
        have hmul : IntKind.u64.wrap (2 * (x.size : Int)) = (S : Int) := by
          rw [hS2, IntKind.wrap_u64]; omega
        have hd32 : (Dg.node n r.dig x.dig).length = 32 := Dg.sum_length _ _ hn2
        have hbt := node_built4 (Dg.node n r.dig x.dig) hd32 rb nb S
        obtain ⟨hrd, _, _, hrb5⟩ := hnr5.cells
        obtain ⟨hxd, _, _, hxb5⟩ := hnx5.cells
        have hrr5 : w5.rangeAt rb 0 (r.dig.map b8) := hrb5.range [] (r.dig.map b8) _ rfl
        have hxr5 : w5.rangeAt nb 0 (x.dig.map b8) := hxb5.range [] (x.dig.map b8) _ rfl
        have hrl32 : (r.dig.map b8).length = 32 := by simp [hrd]
        have hxl32 : (x.dig.map b8).length = 32 := by simp [hxd]
        have x34 := Fut.cell (show w5.cell? ⟨nb, 34, none⟩ = some (.int .u64 x.size) from by rw [hxb5.cell]; unfold nodeCells; rw [List.getElem?_append_right (by simp [hxd])]; simp [hxd])
        have hcj : ∀ s : Fut w5, Calls Tryz.prog 173 #[ptr b, dg r.dig, dg x.dig] s.v fun e w'' => e = .returned (dg (Dg.node n r.dig x.dig)) ∧ ∃ s' : Fut w5, w'' = s'.v := fun s => Calls.fut_of (tjoin_ok b n hn1 hn2 _ _ _ (by rw [(hbw.grown s.below).cell]; rfl) hfit (hW5.fut s))
        have HJ := hid (And.intro hcj (And.intro hrr5 (And.intro hxr5 (And.intro hrl32 (And.intro hxl32 (And.intro hbt (And.intro htr5 (And.intro hnr5 (And.intro hnx5 (And.intro hB5 (And.intro hpl (And.intro hlv2 (And.intro hht (And.intro hrt (And.intro hd32 hS)))))))))))))))
        clear hcj hrr5 hxr5 hrl32 hxl32 hbt htr5 hnr5 hnx5 hB5 hpl hlv2 hht hrt hd32 hS hS2 hsn hpk hlv hrl hxl hfit hrd hxd hrb5 hxb5 hst5 hkw hbw hW5 c1 c0 n34 r34
        refine wp_region_fut_tail 18 (by kernel_rfl) (by kernel_rfl) ?_
        dsimp only [List.take_succ_cons, List.take_zero, List.drop_succ_cons, List.drop_zero]
        repeat (first
          | (go_big_quiet_want; (with_reducible refine quiet_ld 40 (.tmp 66) rb 0 _ 32 _ HJ.out.2.2.2.1 (range_fut HJ.out.2.1) Tryz.underlying40 rfl (by kernel_rfl) ?_ ?_ ?_); rfl; rfl; simp only [Act.put, List.setIfInBounds_toArray, List.set_cons_zero, List.set_cons_succ]; go_big_quiet_on)
          | (go_big_quiet_want; (with_reducible refine quiet_ld 40 (.tmp 70) nb 0 _ 32 _ HJ.out.2.2.2.2.1 (range_fut HJ.out.2.2.1) Tryz.underlying40 rfl (by kernel_rfl) ?_ ?_ ?_); rfl; rfl; simp only [Act.put, List.setIfInBounds_toArray, List.set_cons_zero, List.set_cons_succ]; go_big_quiet_on)
          | (go_big_quiet_want; (with_reducible refine quiet_build 243 #[(0, .tmp 72), (1, .tmp 73), (2, .tmp 74), (3, .tmp 79)] (nodeCells (Dg.node n r.dig x.dig) (ptr rb) (ptr nb) S) ?_ ?_ ?_); rfl; exact HJ.out.2.2.2.2.2.1; simp only [Act.put, List.setIfInBounds_toArray, List.set_cons_zero, List.set_cons_succ]; go_big_quiet_on)
          | go_big_quiet_step (with_reducible exact HJ.out.1 _))
        refine wpQuiet_nil ?_
        rintro _ ⟨s, rfl⟩
        go_wp2_with fail
        go_roundg (ts'.length - 1)
        case measure => omega
        case rel =>
          obtain ⟨_, _, _, _, _, _, htr5, hnr5, hnx5, hB5, hpl, hlv2, hht, hrt, hd32, hS⟩ := HJ.out
          have hel : bs'.length - 1 = ts'.length - 1 := by rw [HR.out.2.2.2.2.2.2]
          have hbox := below_box s.v (.cells (nodeCells (Dg.node n r.dig x.dig) (ptr rb) (ptr nb) S).toArray 243)
          have hg5 : Below w5.heap.size w5 (s.v.alloc (.cells (nodeCells (Dg.node n r.dig x.dig) (ptr rb) (ptr nb) S).toArray 243)) := gro s.below hbox
          refine ⟨bs'.take (bs'.length - 1), ts'.take (ts'.length - 1), .slice (some ⟨g, 0, none⟩) (bs'.length - 1) cap, s.v.heap.size, .node (Dg.node n r.dig x.dig) r x, by rw [List.length_take]; omega, rfl, ⟨hd32, rb, nb, ?_, hnr5.grown hg5, hnx5.grown hg5⟩, ⟨hpl.2.1, HQ.out.2.1, hht, rfl⟩, ?_, hpl.1, ?_, ?_, ?_, ?_⟩
          · rw [← hS]; exact Blk.new _ _ _
          · rw [← hel]; exact htr5.grown hg5
          · rw [HQ.out.2.2.2.2.1]; exact push_on hrt hht
          · exact hB5.trans (hg5.mono (Nat.le_trans hBw (Nat.le_trans (Nat.le_refl _) hB5.size)))
          · exact hlv2
          · rw [List.length_take]; omega
      · have hne : ((r.size : Int) == (x.size : Int)) = false := by rw [beq_eq_false_iff_ne]; omega
        have hpf : (push n ts'.reverse x).reverse = ts' ++ [x] := push_stop (r := r) (by rw [← HR.out.2.2.2.2.2.2]; exact HR.out.2.2.1) (fun e => heq (size_ht.2 e))
        have HPF := hid hpf
        clear hpf
        have h63 : bs'.length + 1 ≤ maxLen := by unfold maxLen; omega
        have hby : (bs'.length + 1) * 8 ≤ 140737488355328 := by omega
        go_upto_region 2 with fail
        go_quiet (fail)
        -- finish .slice (some ⟨g, 0, none⟩) bs'.length cap ;; skip
        have hdr : Below wr.heap.size wr (wr.drewN nq) := below_drewN (Below.refl _ _) nq
        go_upto_region 6 with fail
        refine wp_world (fun w' => TrO B b n w' sz bs' ts' (.slice (some ⟨g, 0, none⟩) bs'.length cap) ∧ NodeAt w' nb x ∧ Below B w w') ⟨HQ.out.2.2.1.grown hdr, HQ.out.1.grown hdr, HQ.out.2.2.2.2.2.1.trans (below_drewN (Below.refl _ _) nq)⟩ ?_
        clear c2 c1 c0 n34 hfz hdr
        rintro w9 ⟨ht9, hn9, hb9⟩
        have hbx := below_box w9 (.cells #[ptr nb] 196)
        have d2 : (w9.alloc (.cells #[ptr nb] 196)).cell? ⟨b, 2, none⟩ = some (.slice (some ⟨g, 0, none⟩) bs'.length cap) := by rw [(ht9.blk.grown hbx).cell]; rfl
        have e2 : w9.cell? ⟨b, 2, none⟩ = some (.slice (some ⟨g, 0, none⟩) bs'.length cap) := by rw [ht9.blk.cell]; rfl
        have hne : (.slice (some ⟨g, 0, none⟩) bs'.length cap : Value).ownBlock ≠ some b := own_ne ht9.own ht9.blk (by decide)
        have hrd : Rd (w9.alloc (.cells #[ptr nb] 196)) (some ⟨w9.heap.size, 0, none⟩) [ptr nb] := rd_box1 w9 _ _
        have hbs : B ≤ (w9.alloc (.cells #[ptr nb] 196)).heap.size := by have := hb9.size; simp; omega
        have H9 := hid (And.intro ht9 (And.intro hn9 (And.intro hb9 (And.intro (own_grown ht9.own hbx) (And.intro hne hrd)))))
        clear ht9 hn9 hb9 hbx hne hrd
        go_wp2_with (
          ((with_reducible refine ap_own (.tmp 86) (.tmp 88) 178 Tryz.underlying178 node_info rfl (by decide) H9.out.2.2.2.1 1 1 rfl H9.out.2.2.2.2.2 one_ptr h63 hby hbs ?_ ?_ ?_ ?_ ?_); rfl; rfl; rfl; rfl
           intro v2 w10 hown2 hg2 hat2 _
           have hk10 := kept_of_grownBy hg2
           have hbk10 : Blk w10 b 180 [.int .i64 n, .int .u64 sz, .slice (some ⟨g, 0, none⟩) bs'.length cap] := hk10.blk (H9.out.1.blk.grown (below_box w9 _)) H9.out.2.2.2.2.1
           have f10 := hbk10.frozen 2
           have c10 : w10.cell? ⟨b, 2, none⟩ = some (.slice (some ⟨g, 0, none⟩) bs'.length cap) := (by rw [hbk10.cell]; rfl)
           have f11 := hbk10.frozen 1
           have c11 : w10.cell? ⟨b, 1, none⟩ = some (.int .u64 sz) := (by rw [hbk10.cell]; rfl)
           have H10 := hid (And.intro hown2 (And.intro hg2 (And.intro hat2 (And.intro hk10 hbk10))))
           clear hown2 hg2 hat2 hk10 hbk10
           obtain ⟨A2, c2', rfl, -, -⟩ := rd_own H10.out.1))
        go_end0
        have hend := TrO.end_ H9.out.1 H9.out.2.1 H9.out.2.2.1 (Nat.le_trans hBw H9.out.2.2.1.size) H10.out.1 H10.out.2.1 H10.out.2.2.1 H10.out.2.2.2.2
        skip
        exact ⟨rfl, hend.1, bs' ++ [nb], _, by rw [HQ.out.2.2.2.2.1, HPF.out]; exact hend.2⟩
end Go.Proofs.YtpnakfeafekneaaGreatDoor

namespace Go.Proofs.YtpnakfeafekneaaGreatDoor
theorem push_spec {n : Nat} : ∀ (rs : List MT) (x : MT), Peaks n rs.reverse → x.ok n → (∀ u ∈ rs, x.ht ≤ u.ht) → Peaks n (push n rs x).reverse ∧ peakLeaves (push n rs x).reverse = peakLeaves rs.reverse ++ x.leaves
  | [], x, _, hx, _ => by
    rw [push]
    exact ⟨⟨hx, by simp, trivial⟩, by simp [peakLeaves]⟩
  | r :: rs, x, hp, hx, hl => by
    rw [List.reverse_cons] at hp
    obtain ⟨h1, h2, h3⟩ := hp.last
    rw [push]
    by_cases he : r.ht = x.ht
    · rw [if_pos he]
      obtain ⟨g1, g2⟩ := push_spec rs (.node (Dg.node n r.dig x.dig) r x) h1 ⟨h2, hx, he, rfl⟩ (fun u hu => h3 u (by simpa using hu))
      refine ⟨g1, ?_⟩
      rw [g2, List.reverse_cons]
      simp [peakLeaves, MT.leaves]
    · rw [if_neg he]
      have hlt : x.ht < r.ht := by have := hl r (by simp); omega
      rw [List.reverse_cons, List.reverse_cons]
      refine ⟨Peaks.snoc hp hx ?_, by simp [peakLeaves]⟩
      intro u hu
      rcases List.mem_append.1 hu with hu | hu
      · have := h3 u hu; omega
      · rw [List.mem_singleton] at hu; subst hu; exact hlt
theorem push_leaf {n : Nat} {ts : List MT} {ds : List (List UInt8)} {d : List UInt8} (hp : Peaks n ts) (hl : peakLeaves ts = ds) : Peaks n (push n ts.reverse (.leaf d)).reverse ∧ peakLeaves (push n ts.reverse (.leaf d)).reverse = ds ++ [d] := by
  have := push_spec ts.reverse (.leaf d) (by rw [List.reverse_reverse]; exact hp) trivial (fun u _ => Nat.zero_le _)
  rw [List.reverse_reverse, hl] at this
  exact this
end Go.Proofs.YtpnakfeafekneaaGreatDoor

namespace Go.Proofs.YtpnakfeafekneaaGreatDoor
open Go.RowKit
structure Own1 (P : Program) (ops : Array Oper) (opsF : Value → Array Oper) (md : Region.Mode) (k v n g0 : Nat) (o ov : Oper) (A0 : Act) (Q' : Exit → Act → World → Prop) (w : World) (X : Value → Array Bool → Prop) (tv : Tmp) (f : FuncId) (args : Array Value) (Φ : Value → World → Prop) : Prop where
  lk : ∀ u, LikeOps ops (opsF u) k o { o with op := .move (.const u) }
  ov_ : ops[v]? = some ov
  dv : ov.dst = some tv
  run : ∀ (a : Act) (w' : World), a.tmps[tv]? = A0.tmps[tv]? → (execOp a.eval o).run P w' = .ok (.enter f args) w'
  call : ∀ w', Below w.heap.size w w' → Calls P f args w' fun e w'' => ∃ u, e = .returned u ∧ Below w'.heap.size w' w'' ∧ Φ u w''
  stab : ∀ u w1 w2, Below w1.heap.size w1 w2 → Φ u w1 → Φ u w2
  kn : k < n
  vk : v ≠ k
  wait : ∃ e ∈ o.after, Region.binds md e = true ∧ e.on = v
  dist : ∀ (i j : Nat) (oi oj : Oper) (t : Tmp), ops[i]? = some oi → ops[j]? = some oj → j ≠ i → oi.dst = some t → oj.dst ≠ some t
  done : ∀ u listed, X u listed → ∀ i, i < n → listed.getD i true = true
  last : ∀ (u : Value) (listed : Array Bool) (w' : World), Below w.heap.size w w' → Φ u w' → X u listed → wpAny P md ops Q' g0 listed (A0.put o.dst u) w'
abbrev HeadU (P : Program) (md : Region.Mode) (opsF : Value → Array Oper) (n : Nat) (X : Value → Array Bool → Prop) (A0 : Act) (o : Oper) (w1 : World) (u : Value) (f : Nat) (listed : Array Bool) (a : Act) : Prop :=
  anyHead P md (opsF u) (FC w1) n (fun listed a => X u listed ∧ a = A0.put o.dst u) f listed a
theorem slot_like {P : Program} {ops ops' : Array Oper} {md : Region.Mode} {k : Nat} {o o' : Oper} {C : World → Prop} {n i : Nat} {X : Array Bool → Prop} {A a : Act} {oi : Oper} {t : Tmp} {f : Nat} {listed : Array Bool} (lk : LikeOps ops ops' k o o') (hdist : ∀ (i j : Nat) (oi oj : Oper) (t : Tmp), ops[i]? = some oi → ops[j]? = some oj → j ≠ i → oi.dst = some t → oj.dst ≠ some t)
    (hoi : ops[i]? = some oi) (ht : oi.dst = some t) (h : anyHead P md ops' C n (fun listed a => X listed ∧ a = A) f listed a) (hi : listed.getD i true = true) : A.tmps[t]? = a.tmps[t]? :=
  head_slot (ops := ops') (i := i) (t := t) (fun j oj hj hji => by
    by_cases hjk : j = k
    · subst hjk
      rw [lk.at1] at hj; cases hj
      rw [lk.dst]
      exact hdist i j oi o t hoi lk.at0 hji ht
    · rw [lk.off j hjk] at hj
      exact hdist i j oi oj t hoi hj hji ht) f _ _ h hi
theorem own_before {P : Program} {ops : Array Oper} {opsF : Value → Array Oper} {md : Region.Mode} {k v n g0 : Nat} {o ov : Oper} {A0 : Act} {Q' : Exit → Act → World → Prop} {w : World} {X : Value → Array Bool → Prop} {tv : Tmp} {fn : FuncId} {args : Array Value} {Φ : Value → World → Prop}
    (F : Own1 P ops opsF md k v n g0 o ov A0 Q' w X tv fn args Φ) :
    ∀ (f : Nat) (listed : Array Bool) (a : Act) (w' : World), listed.getD k true = false → Below w.heap.size w w' →
      (∀ (w1 : World) (u : Value), Below w.heap.size w w1 → HeadU P md opsF n X A0 o w1 u f listed a) → wpAny P md ops Q' (f + g0) listed a w'
  | 0, listed, a, w', hk, _, h => by
    have := F.done _ _ (h w undef (Below.refl _ _)).1 k F.kn
    rw [hk] at this; cases this
  | f + 1, listed, a, w', hk, hb, h => by
    rw [show f + 1 + g0 = (f + g0) + 1 by omega]
    have h0 := h w' undef hb
    have h0' := h0
    unfold HeadU at h0
    rw [anyHead, (F.lk _).ready] at h0
    refine ⟨fun e => absurd e h0.1, fun i hi => ?_⟩
    by_cases hik : i = k
    · subst hik
      have hvl : listed.getD v true = true := by
        obtain ⟨_, o2, ho2, hall⟩ := mem_ready.1 hi
        rw [(F.lk undef).at0] at ho2; cases ho2
        obtain ⟨e, he, hbd, hon⟩ := F.wait
        have := hall e he hbd
        rw [hon] at this
        rcases Nat.lt_or_ge v listed.size with hlt | hge
        · simp [hlt] at this ⊢; exact this
        · simp [Array.getElem?_eq_none hge] at this
      have s2 := slot_like (F.lk undef) F.dist F.ov_ F.dv h0' hvl
      rw [put_get _ _ _ _ (F.dist v i ov o tv F.ov_ (F.lk undef).at0 (Ne.symm F.vk) F.dv)] at s2
      have hrun := F.run a w' s2.symm
      unfold wpOp
      rw [(F.lk undef).at0]
      have hwant : Region.wanted o (Go.yielded ops a.tmps) = true := by unfold Region.wanted; rw [(F.lk undef).guard]
      simp only [hwant, if_true]
      refine .inl ?_
      unfold Oper.wp
      rw [hrun]
      refine (F.call w' hb).mono ?_
      rintro e w2 ⟨u, rfl, hb2, hΦ⟩
      have hbw : Below w.heap.size w w2 := hb.trans (hb2.mono hb.size)
      have h1 := h w2 u hbw
      unfold HeadU at h1
      rw [anyHead, (F.lk _).ready] at h1
      obtain ⟨v1, hy, hK⟩ := yieldsIn_of_qOp (F.lk u).at1 (h1.2 i hi).2
      have hv : v1 = u := by
        rcases hy with ⟨_, hq⟩ | ⟨hw, _⟩
        · have := hq _ (⟨Fut.here _, rfl⟩ : FC w2 w2)
          unfold Oper.quietAt at this
          rw [BigFrame.run_move _ rfl] at this
          exact this.2.symm
        · unfold Region.wanted at hw; rw [(F.lk u).guard'] at hw; cases hw
      subst hv
      refine any_after (F.lk v1) (C := FC w2) (g := g0) (n := n) (L := fun listed a => X v1 listed ∧ a = A0.put o.dst v1) ?_ f _ _ _ ⟨Fut.here _, rfl⟩ (getD_set_self hk) hK
      rintro l2 a2 w3 ⟨s, rfl⟩ ⟨hX, rfl⟩
      exact F.last _ _ _ (hbw.trans (s.below.mono hbw.size)) (F.stab _ _ _ s.below hΦ) hX
    · obtain ⟨hil, oi, hoi, _⟩ := mem_ready.1 hi
      have hoi' : ∀ u, (opsF u)[i]? = some oi := fun u => by rw [(F.lk u).off i hik]; exact hoi
      obtain ⟨vv, hy, hK⟩ := yieldsIn_of_qOp (hoi' _) (h0.2 i hi).2
      have hset : ∀ u (x : Value) (w1 : World), HeadU P md opsF n X A0 o w1 u f (listed.setIfInBounds i true) (a.put oi.dst x) → ∀ t, oi.dst = some t → A0.tmps[t]? = (a.put oi.dst x).tmps[t]? := by
        intro u x w1 hh t ht
        rw [← slot_like (F.lk u) F.dist hoi ht hh (getD_set_self hil)]
        exact (put_get _ _ _ _ (F.dist i k oi o t hoi (F.lk u).at0 (Ne.symm hik) ht)).symm
      have hnext : ∀ w1 u, Below w.heap.size w w1 → HeadU P md opsF n X A0 o w1 u f (listed.setIfInBounds i true) (a.put oi.dst vv) := by
        intro w1 u hb1
        have h1 := h w1 u hb1
        unfold HeadU at h1
        rw [anyHead, (F.lk _).ready] at h1
        obtain ⟨v1, _, hK1⟩ := yieldsIn_of_qOp (hoi' u) (h1.2 i hi).2
        unfold HeadU
        rw [put_eq a oi.dst vv v1 (fun t ht => by rw [← hset _ _ _ hK t ht, ← hset _ _ _ hK1 t ht])]
        exact hK1
      have hq : qOp P ops (FC w') i (fun a' => a' = a.put oi.dst vv) a := by
        refine YieldsIn.qOp hoi ?_ rfl
        unfold YieldsIn at hy ⊢
        rw [(F.lk _).yielded] at hy
        exact hy
      refine wpOp_of_qOp (C := FC w') ⟨Fut.here _, rfl⟩ ?_ hq
      rintro a' w2 ⟨s, rfl⟩ rfl
      exact own_before F f _ _ _ (by rw [getD_set_ne true hik]; exact hk) (hb.trans (s.below.mono hb.size)) hnext
theorem wp_region_own {P : Program} {id : Nat} {Q : Exit → Act → World → Prop} {a : Act} {w : World} {l : List Oper} (n k v : Nat) (o ov : Oper) (tv : Tmp) (f : FuncId) (args : Array Value) (Φ : Value → World → Prop) (A0 : Act)
    (hm : P.follows .mixedOrders = true) (hk : l[k]? = some o) (hv : l[v]? = some ov) (hdv : ov.dst = some tv) (hg : o.guard = none) (hkn : k < n) (hvk : v ≠ k)
    (hw : (o.after.any fun e => Region.binds .any e && e.on == v) = true)
    (hB : ∀ u, Region.lexTailB .any (l.set k { o with op := .move (.const u) }).toArray n = true)
    (hd : ((List.range l.length).all fun i => (List.range l.length).all fun j => i == j || (match (l[i]?).bind (·.dst), (l[j]?).bind (·.dst) with | some a, some b => a != b | _, _ => true)) = true)
    (hrun : ∀ (a : Act) (w' : World), a.tmps[tv]? = A0.tmps[tv]? → (execOp a.eval o).run P w' = .ok (.enter f args) w')
    (hcall : ∀ w', Below w.heap.size w w' → Calls P f args w' fun e w'' => ∃ u, e = .returned u ∧ Below w'.heap.size w' w'' ∧ Φ u w'')
    (hst : ∀ u w1 w2, Below w1.heap.size w1 w2 → Φ u w1 → Φ u w2)
    (h : ∀ (w1 : World) (u : Value), Below w.heap.size w w1 → wpQuiet P (l.set k { o with op := .move (.const u) }).toArray (fun w' => ∃ s : Fut w1, w' = s.v) (fun a' => a' = A0.put o.dst u) ((l.set k { o with op := .move (.const u) }).take n) a)
    (ht : ∀ (u : Value) (w' : World), Below w.heap.size w w' → Φ u w' → wpList P l.toArray Q (l.drop n) (A0.put o.dst u) w') : (Code.region id l.toArray true).wp P Q a w := by
  have lk : ∀ u : Value, LikeOps l.toArray (l.set k { o with op := .move (.const u) }).toArray k o { o with op := .move (.const u) } := fun u => like_set u hk hg
  have hB' := fun u => hB u
  simp only [Region.lexTailB, Bool.and_eq_true, decide_eq_true_eq] at hB'
  have hn : n < l.length := by have := (hB' undef).1.1.1.2; simpa using this
  have hdl : (l.drop n).length = l.length - n := by simp
  refine wp_region_any hm ?_
  have F : Own1 P l.toArray (fun u => (l.set k { o with op := .move (.const u) }).toArray) .any k v n (l.length - n) o ov A0 Q w (fun u listed => Region.seqB .any (l.set k { o with op := .move (.const u) }).toArray (l.length - n) n listed = true ∧ ∀ i, i < n → listed.getD i true = true) tv f args Φ := by
    refine ⟨lk, by simpa using hv, hdv, hrun, hcall, hst, hkn, hvk, ?_, distinct_of hd, fun u listed hX => hX.2, ?_⟩
    · obtain ⟨e, he, h1⟩ := Array.any_eq_true'.1 hw
      simp only [Bool.and_eq_true, beq_iff_eq] at h1
      exact ⟨e, he, h1.1, h1.2⟩
    · intro u listed w' hb hΦ hX
      have hs := hX.1
      rw [(lk u).seqB] at hs
      have := wpAny_of_seq (md := .any) (ops := l.toArray) (Q' := Q) (l.drop n) n listed (A0.put o.dst u) w' (fun j => by simp [List.getElem?_drop]) (by rw [hdl]; exact hs) (ht u w' hb hΦ)
      rwa [hdl] at this
  have hfin : ∀ (w1 : World) (u : Value), Below w.heap.size w w1 → HeadU P .any (fun u => (l.set k { o with op := .move (.const u) }).toArray) n (fun u listed => Region.seqB .any (l.set k { o with op := .move (.const u) }).toArray (l.length - n) n listed = true ∧ ∀ i, i < n → listed.getD i true = true) A0 o w1 u n (Array.replicate l.length false) a := by
    intro w1 u hb1
    obtain ⟨⟨⟨⟨hsel, hn'⟩, hs⟩, hc⟩, hlex⟩ := hB' u
    have hsz : (l.set k { o with op := .move (.const u) }).toArray.size = l.length := by simp
    rw [hsz] at hlex hn'
    have htl : ((l.set k { o with op := .move (.const u) }).take n).length = n := by simp; omega
    have inv0 : HeadInv .any (l.set k { o with op := .move (.const u) }).toArray n (Array.replicate l.length false) :=
      ⟨by simp, fun j oj _ hl => (by rw [getD_replicate_false] at hl; cases hl), fun t _ ht' => getD_in (by rw [hsz] at ht'; simpa using ht') (getD_replicate_false _ _)⟩
    have H := anyHead_lex (P := P) (md := .any) (C := FC w1) (g := l.length - n) hsel hs hc (by rw [hsz]; exact hn') ((l.set k { o with op := .move (.const u) }).take n) 0 _ a (fun j hj => by
      have hj' : j < n := by rw [htl] at hj; exact hj
      simp [hj']) (by simpa using htl) inv0 (by rw [htl]; exact hlex) (h w1 u hb1)
    rw [htl] at H
    refine anyHead_inv ?_ n _ _ inv0 H
    rintro listed a' ⟨h1, h2⟩ hinv
    refine ⟨⟨h1, fun i hi => ?_⟩, h2⟩
    rcases hli : listed.getD i true with _ | _
    · exfalso
      have hready : n ∈ Region.ready .any (l.set k { o with op := .move (.const u) }).toArray listed := by
        obtain ⟨q, hq⟩ : ∃ q, l.length - n = q + 1 := ⟨l.length - n - 1, by omega⟩
        rw [hq] at h1
        simp only [Region.seqB, Bool.and_eq_true, decide_eq_true_eq] at h1
        rw [h1.1]; simp
      exact tail_waits hs hc (by rw [hsz]; exact hn') hinv _ i rfl hi hli n (Nat.le_refl _) hready
    · rfl
  have := own_before F n (Array.replicate l.length false) a { w with drawn := w.drawn + 1 } (getD_in (by simp; have := (List.getElem?_eq_some_iff.1 hk).1; omega) (getD_replicate_false _ _)) (Below.refl _ _).drew hfin
  rw [show n + (l.length - n) = l.toArray.size by simp; omega] at this
  simpa using this
end Go.Proofs.YtpnakfeafekneaaGreatDoor
