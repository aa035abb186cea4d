/- Part 45 of this proof: ZP, ZQ, ZR. -/
import Derived.Test.YtpnakfeafekneaaGreatDoorG44
set_option linter.unusedSimpArgs false
set_option linter.unusedVariables false
/- The law's alike: a ledger is that of these entries, with these boundaries. -/
namespace Go.Proofs.YtpnakfeafekneaaGreatDoor
open Go.RowKit
theorem run_slice_to_u {T e : TypeId} {size : Nat} {P : Program} (hT : P.underlying T = some (.slice e)) (hs : (P.info? e).map (·.size) = some size) (A : Option Addr) (n c k : Nat) (hk : k ≤ c) :
    ∃ A', (∀ w, (Instr.slice T (.slice A n c) none (some (.int .u64 k)) none).run P w = .ok (.slice A' k c) w) ∧ (∀ b o, A = some ⟨b, o, none⟩ → A' = A) := by
  have h1 : (0 : Int) ≤ (k : Int) ∧ (k : Int) ≤ (c : Int) := by omega
  refine ⟨if c = 0 then A else A.map (·.add 0), fun w => ?_, fun b o e => ?_⟩
  · by_cases h0 : c = 0
    · simp [Instr.slice, run_underlying hT, Instr.sliceBounds, Instr.sliceBound, asIntOf, sizeOf_run hs, h1, h0]
      omega
    · simp [Instr.slice, run_underlying hT, Instr.sliceBounds, Instr.sliceBound, asIntOf, sizeOf_run hs, h1, h0]
      omega
  · subst e
    split
    · rfl
    · simp [Addr.add_mid]
theorem rd_take9 {w : World} {A A' : Option Addr} {L : List (List Value)} (hA : ∀ b o, A = some ⟨b, o, none⟩ → A' = A) (h : Rd w A L.flatten) (k : Nat) : Rd w A' (L.take k).flatten := by
  have e : L.flatten = (L.take k).flatten ++ (L.drop k).flatten := by rw [← List.flatten_append, List.take_append_drop]
  rw [e] at h
  intro hne
  obtain ⟨g, o, hg, hr⟩ := h (fun h => hne (List.append_eq_nil_iff.1 h).1)
  exact ⟨g, o, by rw [hA g o hg, hg], (range_halves hr).1⟩
theorem swidth_snap [Inhabited LoT] {S n b : Nat} {es : List Ent} {rs : List Rt} (w : World) (h : SnapAt S w n b es rs) :
    Calls Tryz.prog 46 #[ptr b] w fun e w' => e = .returned (.int .i64 n) ∧ w = w' := by
  obtain ⟨tb, mb, A, c, L, Ap, cp, h1, h2, -⟩ := h
  exact swidth_any b tb n _ w (by rw [h1.cell]; rfl) h2
theorem ssize_snap [Inhabited LoT] {S n b : Nat} {es : List Ent} {rs : List Rt} (w : World) (h : SnapAt S w n b es rs) (hn : rs.length < 1048576) :
    Calls Tryz.prog 47 #[ptr b] w fun e w' => e = .returned (.int .u64 es.length) ∧ Below w.heap.size w w' := by
  obtain ⟨tb, mb, A, c, L, Ap, cp, h1, h2, h3, ⟨h4, h5, h6⟩, ⟨h7, h8, h8'⟩, h9, h10⟩ := h
  exact ssize_any b Ap cp rs (Sn.root n es) w (by rw [h1.cell]; rfl) h7 h10 h9 hn
set_option maxHeartbeats 4000000 in
set_option maxRecDepth 100000 in
theorem alike_any [Inhabited LoT] (S b n : Nat) (h1 : 1 ≤ n) (h2 : n ≤ 32) (es : List Ent) (rs : List Rt) (N M : Nat) (Al : Option Addr) (cl : Nat) (L : List (List Value)) (As : Option Addr) (cs : Nat) (w : World) (hs : SnapAt S w n b es rs) (hpre : Pre n es rs) (hN : es.length = N) (hM : rs.length = M) (hNb : N < 65536) (hMb : M < 1048576) (hNc : N ≤ cl) (hA : Rd w Al L.flatten) (hE : EntsAt w L es) (hS : Rd w As (rtSz rs)) (hkv : ∀ e ∈ es, e.key.length < 1048576 ∧ e.val.length < 1048576) :
    Calls Tryz.prog 21 #[.int .i64 n, ptr b, .slice Al N cl, .slice As M cs] w fun e w' => e = .returned (.bool true) ∧ Below w.heap.size w w' := by
  have hok0 := Sn.root_ok2 n h2 es (by omega)
  have hne0 := run_neq_root _ hok0
  have hwN : IntKind.u64.wrap (N : Int) = (N : Int) := by rw [IntKind.wrap_u64]; omega
  have hroot := fun (w' : World) (h : Below w.heap.size w w') => snroot_any w' (hs.grown h) (by omega)
  have hrof := fun (w' : World) (h : Below w.heap.size w w') => rrootof_any n h2 es Al N cl L w' hN (hA.grown h) (hE.grown h) hNb hkv
  have hwid := fun (w' : World) (h : Below w.heap.size w w') => swidth_snap w' (hs.grown h)
  have hsiz := fun (w' : World) (h : Below w.heap.size w w') => ssize_snap w' (hs.grown h) (by omega)
  have hszs := fun (w' : World) (h : Below w.heap.size w w') => ssizes_any S b n es rs M w' (hs.grown h) hM hMb
  rw [hN] at hsiz
  obtain ⟨R0, hR0⟩ : ∃ R, R = rtCells (Sn.root n es) := ⟨_, rfl⟩
  rw [← hR0] at hne0 hroot hrof
  have HC := hid (And.intro hwid (And.intro hsiz (And.intro hroot (And.intro hrof hszs))))
  have HA := hid (And.intro hs (And.intro hpre (And.intro hN (And.intro hM (And.intro hA (And.intro hE (And.intro hS (And.intro hkv h2))))))))
  clear hwid hsiz hroot hrof hszs hs hpre hN hM hA hE hS hkv hR0 hok0 h1 h2
  go_enter Tryz.func21, Tryz.ntmps21
  go_wp2_with (first
    | (go_at_call 31
       refine (HC.out.2.2.2.2 _ H3.out).mono ?_
       rintro e w4 ⟨Ac, cc, rfl, hb4, hr4⟩
       have H4 := hid (And.intro (gro H3.out hb4) hr4)
       clear hb4 hr4)
    | (go_at_call 37
       refine (HC.out.2.2.2.1 _ H2.out).mono ?_
       rintro e w3 ⟨rfl, hb3⟩
       have H3 := hid (gro H2.out hb3)
       clear hb3)
    | (go_at_call 29
       refine (HC.out.2.2.1 _ H1.out).mono ?_
       rintro e w2 ⟨rfl, hb2⟩
       have H2 := hid (gro H1.out hb2)
       clear hb2)
    | (go_at_call 47
       refine (HC.out.2.1 _ (Below.refl _ _)).mono ?_
       rintro e w1 ⟨rfl, hb1⟩
       have H1 := hid hb1
       clear hb1)
    | (go_at_call 46
       refine (HC.out.1 _ (Below.refl _ _)).mono ?_
       rintro e w0 ⟨rfl, rfl⟩))
  go_loopg [10] M (fun g i wr => ∃ j : Nat, j + g = M ∧ i = .int .i64 j ∧ Below w4.heap.size w4 wr)
  case atStart => exact ⟨0, by omega, rfl, Below.refl _ _⟩
  case round =>
    obtain ⟨j, hj, rfl, hbl⟩ := hrel
    have HR := hid (And.intro hbl (gro H4.out.1 hbl))
    clear hbl
    by_cases hlt : j < M
    · have hjr : j < rs.length := by rw [HA.out.2.2.2.1]; exact hlt
      have hrk := HA.out.2.1 rs[j] (List.getElem_mem hjr)
      obtain ⟨v, hv⟩ : ∃ v, v = rs[j].size := ⟨_, rfl⟩
      have hex : ∃ r ∈ rs, r.size = v := ⟨rs[j], List.getElem_mem hjr, hv.symm⟩
      rw [← hv] at hrk
      have hvN : v ≤ N := by have := HA.out.2.2.1; omega
      have hvc : (0 : Int) ≤ (v : Int) ∧ (v : Int) ≤ (cl : Int) := by omega
      have hget : (rtSz rs)[j]? = some (.int .u64 v) := by unfold rtSz; rw [List.getElem?_map, List.getElem?_eq_getElem hjr, hv]; rfl
      have hnn : rtSz rs ≠ [] := fun e => by rw [e] at hget; simp at hget
      obtain ⟨gs, os, rfl, hrs⟩ := HA.out.2.2.2.2.2.2.1 hnn
      obtain ⟨gc, oc, rfl, hrc⟩ := H4.out.2 hnn
      have ks : wr.cell? ⟨gs, os + j, none⟩ = some (.int .u64 v) := by
        have h5 := hrs j _ hget
        rw [HR.out.2.cell (p := ⟨gs, os + j, none⟩) (World.block_lt_of_cell? w _ h5)]; exact h5
      have kc : wr.cell? ⟨gc, oc + j, none⟩ = some (.int .u64 v) := by
        have h5 := hrc j _ hget
        rw [HR.out.1.cell (p := ⟨gc, oc + j, none⟩) (World.block_lt_of_cell? w4 _ h5)]; exact h5
      have hpast := spast_any S b n es rs M v wr (HA.out.1.grown HR.out.2) HA.out.2.1 HA.out.2.2.2.1 hMb (by have := HA.out.2.2.1; omega) hex
      have hok := Sn.root_ok2 n HA.out.2.2.2.2.2.2.2.2 (es.take v) (by rw [List.length_take]; have := HA.out.2.2.1; omega)
      have hrl := rt_len hok
      have hoc := rt_oc (Sn.root n (es.take v))
      have hneq := run_neq_root _ hok
      obtain ⟨Av, hsl, hAv⟩ := run_slice_to_u (P := Tryz.prog) Tryz.underlying22 (e := 36) (size := 3) (by kernel_rfl) Al N cl v (by omega)
      have hrof : ∀ w', Below w.heap.size w w' → Calls Tryz.prog 37 #[.int .i64 n, .slice Av v cl] w' fun e w'' => e = .returned (.agg (rtCells (Sn.root n (es.take v))).toArray) ∧ Below w'.heap.size w' w'' := fun w' h => rrootof_any n HA.out.2.2.2.2.2.2.2.2 (es.take v) Av v cl (L.take v) w' (by rw [List.length_take]; have := HA.out.2.2.1; omega) ((rd_take9 hAv HA.out.2.2.2.2.1 v).grown h) ((ents_take (HA.out.2.2.2.2.2.1) v).grown h) (by omega) (fun e he => HA.out.2.2.2.2.2.2.2.1 e (List.mem_of_mem_take he))
      obtain ⟨R, hR⟩ : ∃ R, R = rtCells (Sn.root n (es.take v)) := ⟨_, rfl⟩
      rw [← hR] at hpast hrl hoc hneq hrof
      have HX := hid (And.intro hpast (And.intro hrof (And.intro ks kc)))
      clear hpast hrof kc hR hok hAv hrs hrc hget hnn hrk hv hex
      go_upto_region 10 with (first
        | (go_at_call 32
           refine HX.out.1.mono ?_
           rintro e w5 ⟨rfl, hb5⟩
           have H5 := hid hb5
           clear hb5)
        | ((with_reducible refine st_new 42 (.tmp 11) (.tmp 60) _ _ R 65 hrl ?_ (by kernel_rfl) hoc ?_ ?_ ?_ ?_ ?_); rfl; rfl; rfl; rfl; rfl))
      obtain ⟨w6, hw6⟩ : ∃ w6, w6 = w5.alloc (.cells R.toArray 42) := ⟨_, rfl⟩
      have hb6 : Below wr.heap.size wr w6 := by rw [hw6]; exact gro H5.out (below_box _ _)
      have hp6 : w6.rangeAt w5.heap.size 0 R := by rw [hw6]; exact (Blk.new w5 42 R).whole
      rw [← hw6]
      have qs := Fut.cell (w := w6) (show w6.cell? ⟨gs, os + j, none⟩ = some (.int .u64 v) from by rw [hb6.cell (p := ⟨gs, os + j, none⟩) (World.block_lt_of_cell? wr _ HX.out.2.2.1)]; exact HX.out.2.2.1)
      have qc := Fut.cell (w := w6) (show w6.cell? ⟨gc, oc + j, none⟩ = some (.int .u64 v) from by rw [hb6.cell (p := ⟨gc, oc + j, none⟩) (World.block_lt_of_cell? wr _ HX.out.2.2.2)]; exact HX.out.2.2.2)
      have hrf : ∀ s : Fut w6, Calls Tryz.prog 37 #[.int .i64 n, .slice Av v cl] s.v fun e w'' => e = .returned (.agg R.toArray) ∧ ∃ s' : Fut w6, w'' = s'.v := fun s => Calls.fut_of (HX.out.2.1 s.v (gro HR.out.2 (gro hb6 s.below)))
      have H6 := hid (And.intro hb6 (And.intro (range_fut hp6) hrf))
      clear hb6 hp6 hrf hw6 ks
      refine wp_region_fut (by kernel_rfl) (by kernel_rfl) ?_
      repeat (first
        | (go_big_quiet_want; (with_reducible refine quiet_ld 42 (.tmp 11) w5.heap.size 0 R 65 _ hrl H6.out.2.1 Tryz.underlying42 rfl (by kernel_rfl) ?_ ?_ ?_); rfl; rfl; simp only [Act.put, List.setIfInBounds_toArray, List.set_cons_zero, List.set_cons_succ]; go_big_quiet_on)
        | go_big_quiet_step (with_reducible exact H6.out.2.2 _))
      refine wpQuiet_nil ?_
      rintro _ ⟨s, rfl⟩
      go_wp2_with fail
      go_roundg (gk - 1)
      case measure => omega
      case rel => exact ⟨j + 1, by omega, by first | rfl | (rw [wrap_succ j (by omega)]) | go_num, gro HR.out.1 (gro H6.out.1 s.below)⟩
    · obtain rfl : j = M := by omega
      have HW := hid HR.out.2
      clear HR
      go_wp2_with fail
      go_loopg [13] N (fun g i wx => ∃ q : Nat, q + g = N ∧ i = .int .i64 q ∧ Below w.heap.size w wx)
      case atStart => exact ⟨0, by omega, rfl, HW.out⟩
      case round =>
        obtain ⟨q, hq, rfl, hbx⟩ := hrel
        have HR := hid hbx
        clear hbx
        by_cases hqN : q < N
        · have hqe : q < es.length := by rw [HA.out.2.2.1]; exact hqN
          have hkv := HA.out.2.2.2.2.2.2.2.1 es[q] (List.getElem_mem hqe)
          have hent := sentry_any S b n es rs q es[q] wr (HA.out.1.grown HR.out) (by have := HA.out.2.2.2.1; omega) (by have := HA.out.2.2.1; omega) (by simp [hqe]) hkv.1 hkv.2
          have hqL : q < L.length := by have := HA.out.2.2.2.2.2.1.len; omega
          obtain ⟨g, o, rfl, hr⟩ := HA.out.2.2.2.2.1 (by
            intro e
            have := flatten_len 3 _ HA.out.2.2.2.2.2.1.three
            rw [e] at this
            simp at this; omega)
          have hp := range_part hr HA.out.2.2.2.2.2.1.three q hqL
          have hat := HA.out.2.2.2.2.2.1.at_ q L[q] es[q] (by simp [hqL]) (by simp [hqe])
          obtain ⟨x, hx⟩ : ∃ x, x = L[q] := ⟨_, rfl⟩
          rw [← hx] at hp hat
          have hxl : x.length = 3 := HA.out.2.2.2.2.2.1.three x (by rw [hx]; exact List.getElem_mem hqL)
          have hwq : IntKind.u64.wrap (q : Int) = (q : Int) := by rw [IntKind.wrap_u64]; omega
          have hsame : ∀ (y : List Value) (w' : World), Below w.heap.size w w' → EntAt w' y es[q] → Calls Tryz.prog 49 #[.agg y.toArray, .agg x.toArray] w' fun ee w'' => ee = .returned (.bool true) ∧ Below w'.heap.size w' w'' := fun y w' h hy => sameentry_any y x es[q] w' hy (hat.grown h) hkv.1 hkv.2
          have HX := hid (And.intro hent (And.intro hsame hp))
          clear hent hsame hp hx hat hr hkv
          go_upto_region 16 with (first
            | (go_at_call 48
               refine HX.out.1.mono ?_
               rintro e w5 ⟨y, rfl, hb5, hy5⟩
               have hyl := hy5.len
               have hyo := hy5.oc
               have H5 := hid (And.intro hb5 hy5)
               clear hb5 hy5)
            | ((with_reducible refine st_new 36 (.tmp 14) (.tmp 98) _ _ y 3 hyl ?_ (by kernel_rfl) hyo ?_ ?_ ?_ ?_ ?_); rfl; rfl; rfl; rfl; rfl))
          obtain ⟨w6, hw6⟩ : ∃ w6, w6 = w5.alloc (.cells y.toArray 36) := ⟨_, rfl⟩
          have hb56 : Below w5.heap.size w5 w6 := by rw [hw6]; exact below_box _ _
          have hb6 := gro H5.out.1 hb56
          have hp6 : w6.rangeAt w5.heap.size 0 y := by rw [hw6]; exact (Blk.new w5 36 y).whole
          rw [← hw6]
          have h16 := gro HR.out hb6
          have hx6 := range_below HX.out.2.2 h16 (range_lt HX.out.2.2 (by omega))
          have hsf : ∀ s : Fut w6, Calls Tryz.prog 49 #[.agg y.toArray, .agg x.toArray] s.v fun ee w'' => ee = .returned (.bool true) ∧ ∃ s' : Fut w6, w'' = s'.v := fun s => Calls.fut_of (HX.out.2.1 y s.v (gro h16 s.below) (H5.out.2.stay (Stay.of_grown (gro hb56 s.below))).at_)
          have H6 := hid (And.intro h16 (And.intro (range_fut hp6) (And.intro (range_fut hx6) hsf)))
          clear hb56 hb6 hp6 h16 hx6 hsf hw6
          refine wp_region_fut (by kernel_rfl) (by kernel_rfl) ?_
          repeat (first
            | (go_big_quiet_want; (with_reducible refine quiet_ld 36 (.tmp 14) w5.heap.size 0 y 3 _ hyl H6.out.2.1 Tryz.underlying36 rfl (by kernel_rfl) ?_ ?_ ?_); rfl; rfl; simp only [Act.put, List.setIfInBounds_toArray, List.set_cons_zero, List.set_cons_succ]; go_big_quiet_on)
            | (go_big_quiet_want; (with_reducible refine quiet_ld 36 (.tmp 106) g (o + q * 3) x 3 _ hxl H6.out.2.2.1 Tryz.underlying36 rfl (by kernel_rfl) ?_ ?_ ?_); rfl; rfl; simp only [Act.put, List.setIfInBounds_toArray, List.set_cons_zero, List.set_cons_succ]; go_big_quiet_on)
            | go_big_quiet_step (with_reducible exact H6.out.2.2.2 _))
          refine wpQuiet_nil ?_
          rintro _ ⟨s, rfl⟩
          go_wp2_with fail
          go_roundg (gk - 1)
          case measure => omega
          case rel => exact ⟨q + 1, by omega, by first | rfl | (rw [wrap_succ q (by omega)]) | go_num, gro H6.out.1 s.below⟩
        · obtain rfl : q = N := by omega
          go_wp2_with fail
          go_ret
          exact ⟨rfl, HR.out⟩
end Go.Proofs.YtpnakfeafekneaaGreatDoor

/- The law ReplayBuilds: its walk. -/
namespace Go.Proofs.YtpnakfeafekneaaGreatDoor
open Go.RowKit
structure BatsTy (w : World) (X : List (List Value)) (Fs : List Nat) (bs : List (List Ent)) : Prop where
  len : X.length = bs.length
  lenF : Fs.length = bs.length
  at_ : ∀ (i : Nat) (x : List Value) (F : Nat) (b : List Ent), X[i]? = some x → Fs[i]? = some F → bs[i]? = some b → BatTy w x F b
theorem BatsTy.ats {w : World} {X : List (List Value)} {Fs : List Nat} {bs : List (List Ent)} (h : BatsTy w X Fs bs) : BatsAt w X Fs bs := ⟨h.len, h.lenF, fun i x F b h1 h2 h3 => (h.at_ i x F b h1 h2 h3).at_⟩
theorem BatsTy.grown {w w' : World} {X : List (List Value)} {Fs : List Nat} {bs : List (List Ent)} (h : BatsTy w X Fs bs) (hb : Below w.heap.size w w') : BatsTy w' X Fs bs := ⟨h.len, h.lenF, fun i x F b h1 h2 h3 => (h.at_ i x F b h1 h2 h3).grown hb⟩
theorem BatsTy.but {x : TypeId} (hx : 5 ≠ x) (hx2 : 36 ≠ x) {w w' : World} (hb : But x w w') {X : List (List Value)} {Fs : List Nat} {bs : List (List Ent)} (h : BatsTy w X Fs bs) : BatsTy w' X Fs bs := ⟨h.len, h.lenF, fun i x F b h1 h2 h3 => (h.at_ i x F b h1 h2 h3).but hx hx2 hb⟩
theorem BatsTy.snoc {w : World} {X : List (List Value)} {Fs : List Nat} {bs : List (List Ent)} {y : List Value} {F : Nat} {b : List Ent} (h : BatsTy w X Fs bs) (hy : BatTy w y F b) : BatsTy w (X ++ [y]) (Fs ++ [F]) (bs ++ [b]) := by
  refine ⟨by simp [h.len], by simp [h.lenF], fun i x F' b' h1 h2 h3 => ?_⟩
  have hl := h.len; have hl2 := h.lenF
  by_cases hi : i < bs.length
  · rw [List.getElem?_append_left (by omega)] at h1 h2 h3
    exact h.at_ i x F' b' h1 h2 h3
  · have hi2 : i = bs.length := by
      have := (List.getElem?_eq_some_iff.1 h3).1
      simp at this; omega
    subst hi2
    rw [List.getElem?_append_right (by omega)] at h1 h2 h3
    simp [hl, hl2] at h1 h2 h3
    subst h1; subst h2; subst h3; exact hy
theorem info_batch : (Tryz.prog.info? 47).map (fun i => (i.zero, i.size, i.bytes)) = some (some (.agg #[.int .u64 0, .slice none 0 0]), 2, 32) := by kernel_rfl
theorem docbuild_width (x : Int) (hx : ¬ (1 ≤ x ∧ x ≤ 32)) (v : Value) (w : World) :
    Calls Tryz.prog 20 #[.int .i64 x, v] w fun e w' => e = .returned (.tuple #[.slice none 0 0, .slice none 0 0, .int .i64 1]) ∧ w = w' := by
  have HX := hid hx
  clear hx
  go_enter Tryz.func20, Tryz.ntmps20
  go_wp2_with (go_at_call 14
               refine (rwidth_raw x w).mono ?_
               rintro e w3 ⟨rfl, rfl⟩
               rw [if_neg HX.out])
  go_ret3
  exact ⟨rfl, rfl⟩
theorem Bl.least (Fs : List Nat) (bs : List (List Ent)) (m : Nat) : ∃ i0, i0 ≤ m ∧ (∀ i, i < i0 → Bl.err Fs bs i = 0) ∧ (i0 < m → Bl.err Fs bs i0 ≠ 0) := by
  induction m with
  | zero => exact ⟨0, Nat.le_refl _, fun i h => by omega, fun h => by omega⟩
  | succ m ih =>
    obtain ⟨i0, h1, h2, h3⟩ := ih
    rcases Nat.lt_or_ge i0 m with h | h
    · exact ⟨i0, by omega, h2, fun _ => h3 h⟩
    · have : i0 = m := by omega
      subst this
      by_cases he : Bl.err Fs bs i0 = 0
      · exact ⟨i0 + 1, Nat.le_refl _, fun i hi => by
          rcases Nat.lt_or_ge i i0 with h | h
          · exact h2 i h
          · rw [show i = i0 by omega]; exact he, fun h => by omega⟩
      · exact ⟨i0, by omega, h2, fun _ => he⟩
theorem Bl.good {Fs : List Nat} {bs : List (List Ent)} {i : Nat} (hi : i < bs.length) (hF : i < Fs.length) (h : Bl.err Fs bs i = 0) : Fs[i]? = some (bs.take i).flatten.length ∧ En.bchk (bs.take i).flatten.length bs[i] = 0 := by
  rw [Bl.at_ Fs bs i hi hF] at h
  by_cases h1 : En.bchk Fs[i] bs[i] = 0
  · rw [if_neg (by simp [h1])] at h
    by_cases h2 : Fs[i] = (bs.take i).flatten.length
    · exact ⟨by rw [List.getElem?_eq_getElem hF, h2], by rw [← h2]; exact h1⟩
    · rw [if_pos h2] at h; cases h
  · rw [if_pos h1] at h; exact absurd h h1
theorem Bl.lens [Inhabited LoT] {Fs : List Nat} {bs : List (List Ent)} (hl : Fs.length = bs.length) (h : ∀ i, i < bs.length → Bl.err Fs bs i = 0) : ∀ e ∈ bs.flatten, e.key.length < 1048576 ∧ e.val.length < 1048576 := by
  intro e he
  obtain ⟨b, hb, heb⟩ := List.mem_flatten.1 he
  obtain ⟨i, hi, rfl⟩ := List.getElem_of_mem hb
  have := (En.bchk_zero (Bl.good hi (by omega) (h i hi)).2).2.2.2 e heb
  have := En.lens _ this
  omega
theorem buildN [Inhabited LoT] (n : Nat) (h1 : 1 ≤ n) (h2 : n ≤ 32) (bs : List (List Ent)) (Fs : List Nat) (A : Option Addr) (m c : Nat) (X : List (List Value)) (w : World) (hw : Words w) (hm : bs.length = m) (hA : Rd w A X.flatten) (hX : BatsAt w X Fs bs) (hgood : ∀ i, i < m → Bl.err Fs bs i = 0) (hn : m + 2 < 1048576) (htot : bs.flatten.length < 1048576) (hlo : Lo ≤ w.heap.size) :
    Calls Tryz.prog 19 #[.int .i64 n, .slice A m c] w fun e w' => ∃ b S, e = .returned (.tuple #[ptr b, .int .i64 0]) ∧ Below w.heap.size w w' ∧ SnapAt S w' n b bs.flatten (Rbs n bs m) :=
  build_ok n h1 h2 bs Fs A m c X w hw hm hA hX (fun i hi => (Bl.good hi (by rw [hX.lenF]; exact hi) (hgood i (by omega))).1) (fun i hi => (Bl.good hi (by rw [hX.lenF]; exact hi) (hgood i (by omega))).2) hn htot hlo
end Go.Proofs.YtpnakfeafekneaaGreatDoor

/- The law ReplayBuilds: its walk. -/
namespace Go.Proofs.YtpnakfeafekneaaGreatDoor
open Go.RowKit
theorem twinBN_any (F : Nat) (b : List Ent) (A : Option Addr) (m c : Nat) (L : List (List Value)) (w : World) (hm : b.length = m) (hA : Rd w A L.flatten) (hE : EntsAt w L b) (hn : m < 1048576) (hb : ∀ e ∈ b, e.key.length ≤ 140737488355328 ∧ e.val.length ≤ 140737488355328) :
    Calls Tryz.prog 18 #[.agg #[.int .u64 F, .slice A m c]] w fun ee w' => ∃ y, ee = .returned (.agg y.toArray) ∧ Below w.heap.size w w' ∧ BatTy w' y F b :=
  twinB_any F b A m c L w hm hA hE hn hb
theorem builds_many (x : Int) (bs : List (List Ent)) (Fs : List Nat) (A : Option Addr) (m c : Nat) (X : List (List Value)) (w : World) (hw : Words w) (hm : bs.length = m) (hA : Rd w A X.flatten) (hX : BatsAt w X Fs bs) (hn : m + bs.flatten.length < 4611686018427387904) (hbig : 400 < m + bs.flatten.length) :
    Calls Tryz.prog 5 #[.int .i64 x, .slice A m c] w fun e w' => e = .returned (.bool true) ∧ Below w.heap.size w w' := by
  obtain ⟨T, hT⟩ : ∃ T, T = m + bs.flatten.length := ⟨_, rfl⟩
  have hcnt : ∀ w', Below w.heap.size w w' → Calls Tryz.prog 17 #[.slice A m c] w' fun e w'' => e = .returned (.int .i64 T) ∧ Below w'.heap.size w' w'' := fun w' h => by
    rw [hT]; exact lcount_any bs Fs A m c X w' hm (hA.grown h) ⟨hX.len, hX.lenF, fun i x F b h1 h2 h3 => (hX.at_ i x F b h1 h2 h3).grown h⟩ hn
  rw [← hT] at hbig
  have hi : (400 : Int) < (T : Int) := by omega
  have HC := hid hcnt
  clear hcnt hA hX hm hT hn
  go_enter Tryz.func5, Tryz.ntmps5
  go_wp2_with (first
    | (go_at_call 17
       refine (HC.out _ H1.out).mono ?_
       rintro e w2 ⟨rfl, hb2⟩
       have H2 := hid (gro H1.out hb2)
       clear hb2)
    | (go_at_call 8
       refine (awake_any w hw).mono ?_
       rintro e w1 ⟨rfl, hb1⟩
       have H1 := hid hb1
       clear hb1))
  go_ret
  exact ⟨rfl, H2.out⟩
/-- What the two builds answer: no ledger and one error, or a ledger that is alike. -/
def BothAt (x : Int) (bs : List (List Ent)) (Fs : List Nat) (A : Option Addr) (m c : Nat) (w : World) : Prop :=
  ∀ (Y : List (List Value)) (A' : Option Addr) (c' : Nat) (w' : World), Below w.heap.size w w' → Rd w' A' Y.flatten → BatsAt w' Y Fs bs →
    (∃ z : Nat, z ≠ 0 ∧ Calls Tryz.prog 19 #[.int .i64 x, .slice A' m c'] w' (fun e w'' => e = .returned (.tuple #[.pointer none, .int .i64 z]) ∧ Below w'.heap.size w' w'') ∧ ∀ w2, Below w.heap.size w w2 → Calls Tryz.prog 20 #[.int .i64 x, .slice A m c] w2 (fun e w'' => e = .returned (.tuple #[.slice none 0 0, .slice none 0 0, .int .i64 z]) ∧ Below w2.heap.size w2 w''))
    ∨ (∃ (n N : Nat), x = n ∧ Calls Tryz.prog 19 #[.int .i64 n, .slice A' m c'] w' (fun e w'' => ∃ b, e = .returned (.tuple #[ptr b, .int .i64 0]) ∧ Below w'.heap.size w' w'' ∧ ∀ w2, Below w''.heap.size w'' w2 → Calls Tryz.prog 20 #[.int .i64 n, .slice A m c] w2 (fun e w3 => ∃ Al cl As cs, e = .returned (.tuple #[.slice Al N cl, .slice As (m + 1) cs, .int .i64 0]) ∧ Below w2.heap.size w2 w3 ∧ ∀ w4, Below w3.heap.size w3 w4 → Calls Tryz.prog 21 #[.int .i64 n, ptr b, .slice Al N cl, .slice As (m + 1) cs] w4 (fun e w5 => e = .returned (.bool true) ∧ Below w4.heap.size w4 w5))))
theorem both_at (x : Int) (bs : List (List Ent)) (Fs : List Nat) (A : Option Addr) (m c : Nat) (X : List (List Value)) (w : World) (hw : Words w) (hm : bs.length = m) (hA : Rd w A X.flatten) (hX : BatsAt w X Fs bs) (hFs : ∀ F ∈ Fs, F < 18446744073709551616) (hb : ∀ b ∈ bs, ∀ e ∈ b, e.key.length ≤ 140737488355328 ∧ e.val.length ≤ 140737488355328) (hsm : m + bs.flatten.length ≤ 400) : BothAt x bs Fs A m c w := by
  have hXg : ∀ w', Below w.heap.size w w' → BatsAt w' X Fs bs := fun w' h => ⟨hX.len, hX.lenF, fun i x F b h1 h2 h3 => (hX.at_ i x F b h1 h2 h3).grown h⟩
  intro Y A' c' w' hbw hA' hY
  by_cases hx : 1 ≤ x ∧ x ≤ 32
  · obtain ⟨n, rfl⟩ := Int.eq_ofNat_of_zero_le (show 0 ≤ x by omega)
    have h1 : 1 ≤ n := by omega
    have h2 : n ≤ 32 := by omega
    obtain ⟨i0, hi0, hgood, hbad⟩ := Bl.least Fs bs m
    have hdoc := fun (w2 : World) (h : Below w.heap.size w w2) => docbuild_any n h1 h2 bs Fs A m c X w2 i0 hm (hA.grown h) (hXg w2 h) hFs hgood hi0 hbad hb (by omega) (by omega)
    by_cases hlt : i0 < m
    · refine .inl ⟨Bl.err Fs bs i0, hbad hlt, build_bad n h1 h2 bs Fs A' m c' Y w' i0 (hw.below hbw) hm hA' hY hFs hgood hlt (hbad hlt) (by omega) (by omega), fun w2 h => (hdoc w2 h).mono fun e w3 ⟨hb3, hh⟩ => ?_⟩
      rcases hh with ⟨-, he⟩ | ⟨he, -⟩
      · exact ⟨he, hb3⟩
      · omega
    · have him : i0 = m := by omega
      subst him
      refine .inr ⟨n, bs.flatten.length, rfl, (buildN n h1 h2 bs Fs A' i0 c' Y w' (hw.below hbw) hm hA' hY hgood (by omega) (by omega) (Lo.zero _)).mono fun e w2 ⟨b, S, he, hb2, hs⟩ => ⟨b, he, hb2, fun w3 h3 => (hdoc w3 (gro (gro hbw hb2) h3)).mono fun e w4 ⟨hb4, hh⟩ => ?_⟩⟩
      rcases hh with ⟨he, -⟩ | ⟨-, Al, cl, As, cs, L, he, hrl, hel, hcl, hrs⟩
      · omega
      · refine ⟨Al, cl, As, cs, he, hb4, fun w5 h5 => ?_⟩
        have hsz := Rbs_sz n bs i0
        exact alike_any S b n h1 h2 bs.flatten (Rbs n bs i0) bs.flatten.length (i0 + 1) Al cl L As cs w5 (hs.grown (gro (gro h3 hb4) h5)) (Rbs_pre n bs i0) rfl (Rbs_len n bs i0) (by omega) (by omega) hcl (hrl.grown h5) (hel.grown h5).ents (by rw [hsz]; exact hrs.grown h5) (Bl.lens hX.lenF (fun i hi => hgood i (by omega)))
  · have hx2 : x < 1 ∨ 32 < x := by omega
    exact .inl ⟨1, by decide, build_width x hx2 bs Fs A' m c' Y w' hm hA' hY (by omega), fun w2 _ => (docbuild_width x hx _ w2).mono fun e w3 ⟨he, hw3⟩ => ⟨he, by rw [← hw3]; exact Below.refl _ _⟩⟩
set_option maxHeartbeats 4000000 in
set_option maxRecDepth 100000 in
theorem builds_few (x : Int) (bs : List (List Ent)) (Fs : List Nat) (A : Option Addr) (m c : Nat) (X : List (List Value)) (w : World) (hw : Words w) (hm : bs.length = m) (hA : Rd w A X.flatten) (hX : BatsAt w X Fs bs) (hFs : ∀ F ∈ Fs, F < 18446744073709551616) (hb : ∀ b ∈ bs, ∀ e ∈ b, e.key.length ≤ 140737488355328 ∧ e.val.length ≤ 140737488355328) (hsm : m + bs.flatten.length ≤ 400) :
    Calls Tryz.prog 5 #[.int .i64 x, .slice A m c] w fun e w' => e = .returned (.bool true) ∧ Below w.heap.size w w' := by
  have hboth := both_at x bs Fs A m c X w hw hm hA hX hFs hb hsm
  obtain ⟨T, hT⟩ : ∃ T, T = m + bs.flatten.length := ⟨_, rfl⟩
  have hcnt : ∀ w', Below w.heap.size w w' → Calls Tryz.prog 17 #[.slice A m c] w' fun e w'' => e = .returned (.int .i64 T) ∧ Below w'.heap.size w' w'' := fun w' h => by
    rw [hT]; exact lcount_any bs Fs A m c X w' hm (hA.grown h) ⟨hX.len, hX.lenF, fun i x F b h1 h2 h3 => (hX.at_ i x F b h1 h2 h3).grown h⟩ (by omega)
  have hi : ¬ (400 : Int) < (T : Int) := by omega
  have hm400 : m ≤ 400 := by omega
  have HC := hid (And.intro hcnt (And.intro hboth hw))
  have HA := hid (And.intro hA (And.intro hX (And.intro hm (And.intro hb hsm))))
  clear hcnt hboth hw hA hX hm hT hb hsm hFs
  go_enter Tryz.func5, Tryz.ntmps5
  go_wp2_with (first
    | (go_at_call 17
       refine (HC.out.1 _ H1.out).mono ?_
       rintro e w2 ⟨rfl, hb2⟩
       have H2 := hid (gro H1.out hb2)
       clear hb2)
    | (go_at_call 8
       refine (awake_any w HC.out.2.2).mono ?_
       rintro e w1 ⟨rfl, hb1⟩
       have H1 := hid hb1
       clear hb1))
  go_loopg [5, 20] m (fun g s5 i wr => ∃ (j : Nat) (Ar : Option Addr) (cr : Nat) (Y : List (List Value)), j + g = m ∧ i = .int .i64 j ∧ s5 = .slice Ar j cr ∧ wr.ownsRow w2.heap.size 47 2 (.slice Ar j cr) j Y.flatten ∧ BatsTy wr Y (Fs.take j) (bs.take j) ∧ Below w2.heap.size w2 wr)
  case atStart => exact ⟨0, none, 0, [], by omega, rfl, rfl, World.ownsRow_nil _ _ _ _, ⟨rfl, rfl, fun i x F b h => by simp at h⟩, Below.refl _ _⟩
  case round =>
    obtain ⟨j, Ar, cr, Y, hj, rfl, rfl, ho, he, hbl⟩ := hrel
    have HR := hid (And.intro ho (And.intro he (And.intro hbl (gro H2.out hbl))))
    clear ho he hbl
    by_cases hlt : j < m
    · have hjb : j < bs.length := by rw [HA.out.2.2.1]; exact hlt
      have hl1 := HA.out.2.1.len
      have hl2 := HA.out.2.1.lenF
      have hjX : j < X.length := by omega
      have hjF : j < Fs.length := by omega
      obtain ⟨g, o, rfl, hr⟩ := HA.out.1 (by
        intro e
        have := flatten_len 2 _ HA.out.2.1.all2
        rw [e] at this
        simp at this; omega)
      have hp := range_part hr HA.out.2.1.all2 j hjX
      obtain ⟨A1, c1, L1, hx, hr1, he1⟩ := HA.out.2.1.at_ j X[j] Fs[j] bs[j] (by simp [hjX]) (by simp [hjF]) (by simp [hjb])
      rw [hx] at hp
      have hlb := range_lt hp (by simp)
      have hp2 := range_below hp HR.out.2.2.2 hlb
      have hbj := HA.out.2.2.2.1 bs[j] (List.getElem_mem hjb)
      have htF : Fs.take (j + 1) = Fs.take j ++ [Fs[j]] := List.take_succ_eq_append_getElem hjF
      have htb : bs.take (j + 1) = bs.take j ++ [bs[j]] := List.take_succ_eq_append_getElem hjb
      have htl := flatten_take_le bs (j + 1)
      have hsn := flatten_snoc bs j hjb
      obtain ⟨F, hFe⟩ : ∃ F, F = Fs[j] := ⟨_, rfl⟩
      obtain ⟨b, hbe⟩ : ∃ b, b = bs[j] := ⟨_, rfl⟩
      obtain ⟨M, hM⟩ : ∃ M, M = b.length := ⟨_, rfl⟩
      rw [← hFe] at hp2 htF
      rw [← hbe] at hp2 hbj he1 htb hsn
      rw [← hM] at hp2 hsn
      have hM20 : M < 1048576 := by have := HA.out.2.2.2.2; omega
      have htw : ∀ w', Below w.heap.size w w' → Calls Tryz.prog 18 #[.agg #[.int .u64 F, .slice A1 M c1]] w' fun ee w'' => ∃ y, ee = .returned (.agg y.toArray) ∧ Below w'.heap.size w' w'' ∧ BatTy w'' y F b := fun w' h => twinBN_any F b A1 M c1 L1 w' hM.symm (hr1.grown h) (he1.grown h) hM20 hbj
      have hoc : ∀ v ∈ [Value.int .u64 F, .slice A1 M c1], v.oneCell' = true := fun v hv => by
        simp only [List.mem_cons, List.not_mem_nil, or_false] at hv
        rcases hv with rfl | rfl <;> rfl
      have hp9 := (Blk.new wr 47 [.int .u64 F, .slice A1 M c1]).whole
      have hbb := below_box wr (.cells [Value.int .u64 F, .slice A1 M c1].toArray 47)
      have h63 : j + 1 ≤ maxLen := by simp only [maxLen]; omega
      have hby : (j + 1) * 32 ≤ 140737488355328 := by omega
      have HX := hid (And.intro htw (And.intro htF (And.intro htb hbb)))
      clear htw htF htb hbb htl hsn hr hr1 he1 hx hp hlb hFe hbe hM hl1 hl2 hbj
      go_wp2_with (first
        | ((with_reducible refine ld_mid 47 (.tmp 22) g (o + j * 2) _ 2 _ rfl hp2 Tryz.underlying47 rfl (by kernel_rfl) ?_ ?_ ?_ ?_); rfl; rfl; rfl)
        | ((with_reducible refine st_new 47 (.tmp 7) (.tmp 23) _ _ [.int .u64 F, .slice A1 M c1] 2 rfl ?_ (by kernel_rfl) hoc ?_ ?_ ?_ ?_ ?_); rfl; rfl; rfl; rfl; rfl)
        | ((with_reducible refine ld_mid 47 (.tmp 7) wr.heap.size 0 _ 2 _ rfl hp9 Tryz.underlying47 rfl (by kernel_rfl) ?_ ?_ ?_ ?_); rfl; rfl; rfl)
        | (go_at_call 18
           refine (HX.out.1 _ (gro HR.out.2.2.2 HX.out.2.2.2)).mono ?_
           rintro e w7 ⟨y, rfl, hb7, hy⟩
           have hyl : ∀ x ∈ [y], x.length = 2 := (fun x hx => by rw [List.mem_singleton] at hx; subst hx; exact hy.two)
           have hyl2 : [y].flatten.length = 1 * 2 := (by simpa using hy.two)
           have hyo : ∀ v ∈ [y].flatten, v.oneCell' = true := (fun v hv => hy.oc v (by simpa using hv))
           have hb8 := gro (gro HX.out.2.2.2 hb7) (below_box w7 (.cells [y].flatten.toArray 47))
           have own8 := own_grown HR.out.1 hb8
           have hr8 := Rd.of _ (Blk.new w7 47 [y].flatten).whole
           have hbs8 := (gro HR.out.2.2.1 hb8).size
           have H8 := hid (And.intro hb8 (And.intro own8 (And.intro hr8 (hy.grown (below_box w7 (.cells [y].flatten.toArray 47))))))
           clear hb7 hy hb8 own8 hr8)
        | ((with_reducible refine bs_own 44 47 1 #[(0, .tmp 26)] [y] 2 (by decide) hyl rfl (by decide) (by decide) Tryz.underlying44 (by kernel_rfl) ?_ ?_ ?_ ?_); rfl; rfl; rfl)
        | ((with_reducible refine ap_own (.tmp 24) (.tmp 27) 44 Tryz.underlying44 info_batch rfl (by decide) H8.out.2.1 1 1 hyl2 H8.out.2.2.1 hyo h63 hby hbs8 ?_ ?_ ?_ ?_ ?_); rfl; rfl; rfl; rfl
           intro v9 w9 hn1 hn2 hn3 hn4
           obtain ⟨A9, c9, rfl, hr9, hc9⟩ := rd_own hn1
           have p9 := But.append H8.out.2.1 hn2
           have hb9 := grownBy_below H8.out.2.1 (gro HR.out.2.2.1 H8.out.1) hbs8 hn2
           have he9 := ((HR.out.2.1.grown H8.out.1).snoc H8.out.2.2.2).but (by decide) (by decide) p9
           have H9 := hid (And.intro hn1 (And.intro he9 hb9))
           clear hn1 hn2 hn3 hn4 hr9 hc9 p9 hb9 he9))
      go_roundg (gk - 1)
      case measure => omega
      case rel =>
        refine ⟨j + 1, A9, c9, Y ++ [y], by omega, by go_num, rfl, ?_, ?_, H9.out.2.2⟩
        · rw [List.flatten_append]; exact H9.out.1
        · rw [HX.out.2.1, HX.out.2.2.1]; exact H9.out.2.1
    · obtain rfl : j = m := by omega
      have hY := HR.out.2.1
      rw [List.take_of_length_le (by have := HA.out.2.1.lenF; have := HA.out.2.2.1; omega), List.take_of_length_le (by have := HA.out.2.1.lenF; have := HA.out.2.2.1; omega)] at hY
      obtain ⟨A6, c6, e6, hr6, -⟩ := rd_own HR.out.1
      cases e6
      rcases HC.out.2.1 Y Ar cr wr HR.out.2.2.2 hr6 hY.ats with ⟨z, hz, hB, hD⟩ | ⟨n, N, rfl, hB⟩
      · have hzi : ¬ (z : Int) = 0 := by omega
        have HD := hid (And.intro hB hD)
        clear hB hD hY hr6
        go_wp2_with (first
          | (go_at_call 20
             refine (HD.out.2 _ (gro HR.out.2.2.2 H5.out)).mono ?_
             rintro e w6 ⟨rfl, hb6⟩
             have H6 := hid (gro H5.out hb6)
             clear hb6)
          | (go_at_call 19
             refine HD.out.1.mono ?_
             rintro e w5 ⟨rfl, hb5⟩
             have H5 := hid hb5
             clear hb5))
        go_ret
        exact ⟨rfl, gro HR.out.2.2.2 H6.out⟩
      · have HD := hid hB
        clear hB hY hr6
        go_wp2_with (first
          | (go_at_call 21
             refine (H6.out.2 _ (Below.refl _ _)).mono ?_
             rintro e w7 ⟨rfl, hb7⟩
             have H7 := hid (gro H6.out.1 hb7)
             clear hb7)
          | (go_at_call 20
             refine (H5.out.2 _ (Below.refl _ _)).mono ?_
             rintro e w6 ⟨Al, cl, As, cs, rfl, hb6, hal⟩
             have H6 := hid (And.intro (gro H5.out.1 hb6) hal)
             clear hb6 hal)
          | (go_at_call 19
             refine HD.out.mono ?_
             rintro e w5 ⟨b5, rfl, hb5, hdoc⟩
             have H5 := hid (And.intro hb5 hdoc)
             clear hb5 hdoc))
        go_ret
        exact ⟨rfl, gro HR.out.2.2.2 H7.out⟩
theorem replaybuilds_any (x : Int) (bs : List (List Ent)) (Fs : List Nat) (A : Option Addr) (m c : Nat) (X : List (List Value)) (w : World) (hw : Words w) (hm : bs.length = m) (hA : Rd w A X.flatten) (hX : BatsAt w X Fs bs) (hFs : ∀ F ∈ Fs, F < 18446744073709551616) (hb : ∀ b ∈ bs, ∀ e ∈ b, e.key.length ≤ 140737488355328 ∧ e.val.length ≤ 140737488355328) (hn : m + bs.flatten.length < 4611686018427387904) :
    Calls Tryz.prog 5 #[.int .i64 x, .slice A m c] w fun e w' => e = .returned (.bool true) ∧ Below w.heap.size w w' := by
  by_cases h : 400 < m + bs.flatten.length
  · exact builds_many x bs Fs A m c X w hw hm hA hX hn h
  · exact builds_few x bs Fs A m c X w hw hm hA hX hFs hb (by omega)
end Go.Proofs.YtpnakfeafekneaaGreatDoor
