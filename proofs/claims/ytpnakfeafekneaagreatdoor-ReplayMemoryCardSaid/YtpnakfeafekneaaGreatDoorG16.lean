/- Part 16 of this proof: R3, T2, T3, T4. -/
import Derived.Test.YtpnakfeafekneaaGreatDoorG13
import Derived.Test.YtpnakfeafekneaaGreatDoorG15
set_option linter.unusedSimpArgs false
set_option linter.unusedVariables false
namespace Go.Proofs.YtpnakfeafekneaaGreatDoor
open Go.RowKit
structure Like2 (ops ops' : Array Oper) (k m : Nat) : Prop where
  size : ops'.size = ops.size
  same : ∀ j : Nat, (ops'[j]?).map (fun (o : Oper) => (o.after, o.dst)) = (ops[j]?).map (fun (o : Oper) => (o.after, o.dst))
  off : ∀ j : Nat, j ≠ k → j ≠ m → ops'[j]? = ops[j]?
section
variable {P : Program} {ops ops' : Array Oper} {md : Region.Mode} {k m : Nat}
theorem Like2.ready (h : Like2 ops ops' k m) (listed : Array Bool) : Region.ready md ops' listed = Region.ready md ops listed := by
  unfold Region.ready
  rw [h.size]
  congr 1
  funext i
  have := h.same i
  cases h1 : ops'[i]? <;> cases h2 : ops[i]? <;> simp [h1, h2] at this ⊢
  rw [this.1]
theorem Like2.yielded (h : Like2 ops ops' k m) : yielded ops' = yielded ops := by
  funext tmps j
  unfold Go.yielded
  have := h.same j
  cases h1 : ops'[j]? <;> cases h2 : ops[j]? <;> simp [h1, h2] at this ⊢
  rw [this.2]
theorem Like2.qOp (h : Like2 ops ops' k m) {C : World → Prop} {i : Nat} (hi : i ≠ k) (hi2 : i ≠ m) {K : Act → Prop} {a : Act} (hq : qOp P ops' C i K a) : qOp P ops C i K a := by
  unfold Go.qOp at *
  rw [h.off i hi hi2, h.yielded] at hq
  exact hq
theorem Like2.seqB (h : Like2 ops ops' k m) : ∀ (g j : Nat) (listed : Array Bool), Region.seqB md ops' g j listed = Region.seqB md ops g j listed
  | 0, _, listed => by unfold Region.seqB; rw [h.ready]
  | g + 1, j, listed => by unfold Region.seqB; rw [h.ready, Like2.seqB h g]
theorem Like2.dst (h : Like2 ops ops' k m) {j : Nat} {o o' : Oper} (h1 : ops[j]? = some o) (h2 : ops'[j]? = some o') : o'.dst = o.dst := by
  have := h.same j
  rw [h1, h2] at this
  simp at this
  exact this.2
theorem Like2.get (h : Like2 ops ops' k m) {j : Nat} {o' : Oper} (h2 : ops'[j]? = some o') : ∃ o, ops[j]? = some o ∧ o'.dst = o.dst := by
  have := h.same j
  cases h1 : ops[j]? with
  | none => simp [h1, h2] at this
  | some o => exact ⟨o, rfl, h.dst h1 h2⟩
theorem late_any {C : World → Prop} {n g : Nat} {L : Array Bool → Act → Prop} {Q' : Exit → Act → World → Prop} (lk : Like2 ops ops' k m) (hL : ∀ listed a w, C w → L listed a → wpAny P md ops Q' g listed a w) :
    ∀ (f : Nat) (listed : Array Bool) (a : Act) (w : World), C w → listed.getD k true = true → listed.getD m true = true → anyHead P md ops' C n L f listed a → wpAny P md ops Q' (f + g) listed a w
  | 0, listed, a, w, hw, _, _, h => by rw [Nat.zero_add]; exact hL _ _ _ hw h
  | f + 1, listed, a, w, hw, hk, hm, h => by
    rw [show f + 1 + g = (f + g) + 1 by omega]
    have h' := h
    rw [anyHead, lk.ready] at h'
    refine ⟨fun h0 => absurd h0 h'.1, fun i hi => ?_⟩
    have hik : i ≠ k := fun e => by subst e; rw [(mem_ready.1 hi).1] at hk; cases hk
    have him : i ≠ m := fun e => by subst e; rw [(mem_ready.1 hi).1] at hm; cases hm
    exact wpOp_of_qOp hw (fun a' w' hw' h' => late_any lk hL f _ a' w' hw' (by rw [getD_set_ne true hik]; exact hk) (by rw [getD_set_ne true him]; exact hm) h') (lk.qOp hik him (h'.2 i hi).2)
theorem slot_now {C : World → Prop} {n i : Nat} {X : Array Bool → Prop} {A a : Act} {oi : Oper} {t : Tmp} {f : Nat} {listed : Array Bool} (lk : Like2 ops ops' k m) (hdist : ∀ (i j : Nat) (oi oj : Oper) (t : Tmp), ops[i]? = some oi → ops[j]? = some oj → j ≠ i → oi.dst = some t → oj.dst ≠ some t)
    (hoi : ops[i]? = some oi) (ht : oi.dst = some t) (h : anyHead P md ops' C n (fun listed a => X listed ∧ a = A) f listed a) (hi : listed.getD i true = true) : A.tmps[t]? = a.tmps[t]? :=
  head_slot (ops := ops') (i := i) (t := t) (fun j oj hj hji => by
    obtain ⟨o, ho, hd⟩ := lk.get hj
    rw [hd]
    exact hdist i j oi o t hoi ho hji ht) f _ _ h hi
end
section
variable {P : Program} {ops : Array Oper} {opsF : Nat → Array Oper} {md : Region.Mode} {k m v n g0 : Nat} {o om ov : Oper} {oF omF : Nat → Oper} {T : TypeId} {zs D : List Value} {A0 : Act} {Q' : Exit → Act → World → Prop} {w : World} {X : Nat → Array Bool → Prop} {tk tv : Tmp}
structure Fresh (P : Program) (ops : Array Oper) (opsF : Nat → Array Oper) (md : Region.Mode) (k m v n g0 : Nat) (o om ov : Oper) (T : TypeId) (zs D : List Value) (A0 : Act) (Q' : Exit → Act → World → Prop) (w : World) (X : Nat → Array Bool → Prop) (tk tv : Tmp) : Prop where
  lk : ∀ g, Like2 ops (opsF g) k m
  ok : ops[k]? = some o
  om_ : ops[m]? = some om
  ov_ : ops[v]? = some ov
  okF : ∀ g, ∃ oF, (opsF g)[k]? = some oF ∧ oF.op = .move (.const (.pointer (some ⟨g, 0, none⟩))) ∧ oF.guard = none
  omF : ∀ g, ∃ oF, (opsF g)[m]? = some oF ∧ oF.op = .move (.const undef) ∧ oF.guard = none
  gk : o.guard = none
  gm : om.guard = none
  dk : o.dst = some tk
  dv : ov.dst = some tv
  dm : om.dst = none
  al : ∀ (a : Act) (w' : World), (execOp a.eval o).run P w' = .ok (.value (.pointer (some ⟨w'.heap.size, 0, none⟩))) (w'.alloc (.cells zs.toArray T))
  st : ∀ (g : Nat) (a : Act) (w' : World), a.tmps[tk]? = some (.pointer (some ⟨g, 0, none⟩)) → a.tmps[tv]? = A0.tmps[tv]? → Blk w' g T zs → (execOp a.eval om).run P w' = .ok .skip (w'.setCells g 0 D)
  zD : zs.length = D.length
  kn : k < n
  mn : m < n
  km : k ≠ m
  vk : v ≠ k
  wait_k : ∃ e ∈ om.after, Region.binds md e = true ∧ e.on = k
  wait_v : ∃ e ∈ om.after, Region.binds md e = true ∧ e.on = v
  dist : ∀ (i j : Nat) (oi oj : Oper) (t : Tmp), ops[i]? = some oi → ops[j]? = some oj → j ≠ i → oi.dst = some t → oj.dst ≠ some t
  done : ∀ g listed, X g listed → ∀ i, i < n → listed.getD i true = true
  tks : ∀ g, (A0.put o.dst (.pointer (some ⟨g, 0, none⟩))).tmps[tk]? = some (.pointer (some ⟨g, 0, none⟩))
  last : ∀ (g : Nat) (listed : Array Bool) (w' : World), w.heap.size ≤ g → Below w.heap.size w w' → Blk w' g T D → X g listed → wpAny P md ops Q' g0 listed (A0.put o.dst (.pointer (some ⟨g, 0, none⟩))) w'
abbrev HeadOf (P : Program) (md : Region.Mode) (opsF : Nat → Array Oper) (n : Nat) (X : Nat → Array Bool → Prop) (A0 : Act) (o : Oper) (w1 : World) (g : Nat) (f : Nat) (listed : Array Bool) (a : Act) : Prop :=
  anyHead P md (opsF g) (FC w1) n (fun listed a => X g listed ∧ a = A0.put o.dst (.pointer (some ⟨g, 0, none⟩))) f listed a
theorem mid_any (F : Fresh P ops opsF md k m v n g0 o om ov T zs D A0 Q' w X tk tv) (g : Nat) (hg : w.heap.size ≤ g) :
    ∀ (f : Nat) (listed : Array Bool) (a : Act) (w' : World), listed.getD k true = true → listed.getD m true = false → Below w.heap.size w w' → Blk w' g T zs →
      (∀ w1, Below w.heap.size w w1 → HeadOf P md opsF n X A0 o w1 g f listed a) → wpAny P md ops Q' (f + g0) listed a w'
  | 0, listed, a, w', _, hm, _, _, h => by
    have := F.done _ _ (h w (Below.refl _ _)).1 m F.mn
    rw [hm] at this; cases this
  | f + 1, listed, a, w', hk, hm, hb, hbk, h => by
    rw [show f + 1 + g0 = (f + g0) + 1 by omega]
    have h0 := h w' hb
    have h0' := h0
    unfold HeadOf at h0
    rw [anyHead, (F.lk _).ready] at h0
    refine ⟨fun e => absurd e h0.1, fun i hi => ?_⟩
    have hik : i ≠ k := fun e => by subst e; rw [(mem_ready.1 hi).1] at hk; cases hk
    by_cases him : i = m
    · subst him
      have hvl : listed.getD v true = true := by
        obtain ⟨_, o2, ho2, hall⟩ := mem_ready.1 hi
        rw [F.om_] at ho2; cases ho2
        obtain ⟨e, he, hbd, hon⟩ := F.wait_v
        have := hall e he hbd
        rw [hon] at this
        rcases Nat.lt_or_ge v listed.size with hlt | hge
        · simp [hlt] at this ⊢; exact this
        · simp [Array.getElem?_eq_none hge] at this
      have s1 := slot_now (F.lk g) F.dist F.ok F.dk h0' hk
      have s2 := slot_now (F.lk g) F.dist F.ov_ F.dv h0' hvl
      rw [F.tks] at s1
      have htv : (A0.put o.dst (.pointer (some ⟨g, 0, none⟩))).tmps[tv]? = A0.tmps[tv]? := put_get _ _ _ _ (F.dist v k ov o tv F.ov_ F.ok (Ne.symm F.vk) F.dv)
      rw [htv] at s2
      have hrun := F.st g a w' s1.symm s2.symm hbk
      unfold wpOp
      rw [F.om_]
      have hwant : Region.wanted om (Go.yielded ops a.tmps) = true := by unfold Region.wanted; rw [F.gm]
      simp only [hwant, if_true]
      refine .inl ?_
      unfold Oper.wp
      rw [hrun]
      have hk2 : Kept (· = g) w' (w'.setCells g 0 D) := (Kept.refl _ _).setN 0 _
      have hb2 : Below w.heap.size w (w'.setCells g 0 D) := hk2.step hb hb.size (fun j hj => by show ¬ _ = _; omega)
      have hbD : Blk (w'.setCells g 0 D) g T D := by
        have := Blk.setCells D 0 zs hbk (by rw [F.zD]; omega)
        rwa [splice_whole zs D F.zD] at this
      have h2 := h (w'.setCells g 0 D) hb2
      unfold HeadOf at h2
      rw [anyHead, (F.lk _).ready] at h2
      obtain ⟨oF, hoF, _, _⟩ := F.omF g
      obtain ⟨vv, _, hK⟩ := yieldsIn_of_qOp hoF (h2.2 i hi).2
      have hd : oF.dst = none := by rw [(F.lk g).dst F.om_ hoF, F.dm]
      rw [hd] at hK
      refine late_any (F.lk g) (C := FC (w'.setCells g 0 D)) (g := g0) (n := n) (L := fun listed a => X g listed ∧ a = A0.put o.dst (.pointer (some ⟨g, 0, none⟩))) ?_ f _ _ _ ⟨Fut.here _, rfl⟩ (by rw [getD_set_ne true (Ne.symm F.km)]; exact hk) (getD_set_self hm) ?_
      · rintro l2 a2 w2 ⟨s, rfl⟩ ⟨hX, rfl⟩
        exact F.last _ _ _ hg (hb2.trans (s.below.mono hb2.size)) (hbD.grown s.below) hX
      · show anyHead P md (opsF g) _ n _ f _ (a.put om.dst undef)
        rw [F.dm]
        exact hK
    · obtain ⟨hil, oi, hoi, _⟩ := mem_ready.1 hi
      have hoi' : (opsF g)[i]? = some oi := by rw [(F.lk g).off i hik him]; exact hoi
      obtain ⟨vv, hy, hK⟩ := yieldsIn_of_qOp hoi' (h0.2 i hi).2
      have hnext : ∀ w1, Below w.heap.size w w1 → HeadOf P md opsF n X A0 o w1 g f (listed.setIfInBounds i true) (a.put oi.dst vv) := by
        intro w1 hb1
        have h1 := h w1 hb1
        unfold HeadOf at h1
        rw [anyHead, (F.lk _).ready] at h1
        obtain ⟨v1, _, hK1⟩ := yieldsIn_of_qOp hoi' (h1.2 i hi).2
        unfold HeadOf
        rw [put_eq a oi.dst vv v1 (fun t ht => by
          rw [← slot_now (F.lk g) F.dist hoi ht hK (getD_set_self hil), ← slot_now (F.lk g) F.dist hoi ht hK1 (getD_set_self hil)])]
        exact hK1
      have hq : qOp P ops (FC w') i (fun a' => a' = a.put oi.dst vv) a := by
        refine YieldsIn.qOp hoi ?_ rfl
        unfold YieldsIn at hy ⊢
        rw [(F.lk _).yielded] at hy
        exact hy
      refine wpOp_of_qOp (C := FC w') ⟨Fut.here _, rfl⟩ ?_ hq
      rintro a' w2 ⟨s, rfl⟩ rfl
      exact mid_any F g hg f _ _ _ (by rw [getD_set_ne true hik]; exact hk) (by rw [getD_set_ne true him]; exact hm) (hb.trans (s.below.mono hb.size)) (hbk.grown s.below) hnext
theorem early_any (F : Fresh P ops opsF md k m v n g0 o om ov T zs D A0 Q' w X tk tv) :
    ∀ (f : Nat) (listed : Array Bool) (a : Act) (w' : World), listed.getD k true = false → listed.getD m true = false → Below w.heap.size w w' →
      (∀ w1 g, Below w.heap.size w w1 → w.heap.size ≤ g → HeadOf P md opsF n X A0 o w1 g f listed a) → wpAny P md ops Q' (f + g0) listed a w'
  | 0, listed, a, w', hk, _, _, h => by
    have := F.done _ _ (h w w.heap.size (Below.refl _ _) (Nat.le_refl _)).1 k F.kn
    rw [hk] at this; cases this
  | f + 1, listed, a, w', hk, hm, hb, h => by
    rw [show f + 1 + g0 = (f + g0) + 1 by omega]
    have h0 := h w' w.heap.size hb (Nat.le_refl _)
    unfold HeadOf at h0
    rw [anyHead, (F.lk _).ready] at h0
    refine ⟨fun e => absurd e h0.1, fun i hi => ?_⟩
    have him : i ≠ m := fun e => by
      subst e
      obtain ⟨_, o2, ho2, hall⟩ := mem_ready.1 hi
      rw [F.om_] at ho2; cases ho2
      obtain ⟨e, he, hbd, hon⟩ := F.wait_k
      have := hall e he hbd
      rw [hon, getD_both hk] at this
      cases this
    by_cases hik : i = k
    · subst hik
      have hb1 : Below w.heap.size w (w'.alloc (.cells zs.toArray T)) := hb.alloc hb.size _
      unfold wpOp
      rw [F.ok]
      have hwant : Region.wanted o (Go.yielded ops a.tmps) = true := by unfold Region.wanted; rw [F.gk]
      simp only [hwant, if_true]
      refine .inl ?_
      unfold Oper.wp
      rw [F.al]
      refine mid_any F w'.heap.size hb.size f _ _ _ (getD_set_self hk) (by rw [getD_set_ne true him]; exact hm) hb1 (Blk.new w' T zs) ?_
      intro w1 hb2
      have h1 := h w1 w'.heap.size hb2 hb.size
      unfold HeadOf at h1
      rw [anyHead, (F.lk _).ready] at h1
      obtain ⟨oF, hoF, hop, hgd⟩ := F.okF w'.heap.size
      obtain ⟨v1, hy, hK⟩ := yieldsIn_of_qOp hoF (h1.2 i hi).2
      have hv : v1 = .pointer (some ⟨w'.heap.size, 0, none⟩) := by
        rcases hy with ⟨_, hq⟩ | ⟨hw, _⟩
        · have := hq _ (⟨Fut.here _, rfl⟩ : FC w1 w1)
          unfold Oper.quietAt at this
          rw [BigFrame.run_move _ hop] at this
          exact this.2.symm
        · unfold Region.wanted at hw; rw [hgd] at hw; cases hw
      subst hv
      rw [(F.lk _).dst F.ok hoF] at hK
      exact hK
    · obtain ⟨hil, oi, hoi, _⟩ := mem_ready.1 hi
      have hoi' : ∀ g, (opsF g)[i]? = some oi := fun g => by rw [(F.lk g).off i hik him]; exact hoi
      obtain ⟨vv, hy, hK⟩ := yieldsIn_of_qOp (hoi' _) (h0.2 i hi).2
      have hset : ∀ g (u : Value) (w1 : World), HeadOf P md opsF n X A0 o w1 g f (listed.setIfInBounds i true) (a.put oi.dst u) → ∀ t, oi.dst = some t → A0.tmps[t]? = (a.put oi.dst u).tmps[t]? := by
        intro g u w1 hh t ht
        rw [← slot_now (F.lk g) F.dist hoi ht hh (getD_set_self hil)]
        exact (put_get _ _ _ _ (F.dist i k oi o t hoi F.ok (Ne.symm hik) ht)).symm
      have hnext : ∀ w1 g, Below w.heap.size w w1 → w.heap.size ≤ g → HeadOf P md opsF n X A0 o w1 g f (listed.setIfInBounds i true) (a.put oi.dst vv) := by
        intro w1 g hb1 hg
        have h1 := h w1 g hb1 hg
        unfold HeadOf at h1
        rw [anyHead, (F.lk _).ready] at h1
        obtain ⟨v1, _, hK1⟩ := yieldsIn_of_qOp (hoi' g) (h1.2 i hi).2
        unfold HeadOf
        rw [put_eq a oi.dst vv v1 (fun t ht => by rw [← hset _ _ _ hK t ht, ← hset _ _ _ hK1 t ht])]
        exact hK1
      have hq : qOp P ops (FC w') i (fun a' => a' = a.put oi.dst vv) a := by
        refine YieldsIn.qOp hoi ?_ rfl
        unfold YieldsIn at hy ⊢
        rw [(F.lk _).yielded] at hy
        exact hy
      refine wpOp_of_qOp (C := FC w') ⟨Fut.here _, rfl⟩ ?_ hq
      rintro a' w2 ⟨s, rfl⟩ rfl
      exact early_any F f _ _ _ (by rw [getD_set_ne true hik]; exact hk) (by rw [getD_set_ne true him]; exact hm) (hb.trans (s.below.mono hb.size)) hnext
end
def idle (l : List Oper) (k m : Nat) (o om : Oper) (g : Nat) : List Oper := (l.set k { o with op := .move (.const (.pointer (some ⟨g, 0, none⟩))) }).set m { om with op := .move (.const undef) }
theorem idle_like {l : List Oper} {k m : Nat} {o om : Oper} (hk : l[k]? = some o) (hm : l[m]? = some om) (hkm : k ≠ m) (g : Nat) : Like2 l.toArray (idle l k m o om g).toArray k m where
  size := by simp [idle]
  same := fun j => by
    have h1 := (List.getElem?_eq_some_iff.1 hk)
    have h2 := (List.getElem?_eq_some_iff.1 hm)
    unfold idle
    rw [List.getElem?_toArray, List.getElem?_toArray]
    by_cases hjm : j = m
    · subst hjm; rw [List.getElem?_set_self (by simpa using h2.1), hm]; rfl
    · rw [List.getElem?_set_ne (Ne.symm hjm)]
      by_cases hjk : j = k
      · subst hjk; rw [List.getElem?_set_self h1.1, hk]; rfl
      · rw [List.getElem?_set_ne (Ne.symm hjk)]
  off := fun j hj hj2 => by
    unfold idle
    rw [List.getElem?_toArray, List.getElem?_toArray, List.getElem?_set_ne (Ne.symm hj2), List.getElem?_set_ne (Ne.symm hj)]
theorem wp_region_fresh {P : Program} {id : Nat} {Q : Exit → Act → World → Prop} {a : Act} {w : World} {l : List Oper} (n k m v : Nat) (o om ov : Oper) (T : TypeId) (zs D : List Value) (z : Value) (tk tv : Tmp) (A0 : Act)
    (hmo : P.follows .mixedOrders = true) (hk : l[k]? = some o) (hmm : l[m]? = some om) (hv : l[v]? = some ov) (ho : o.op = .alloc T) (hom : om.op = .store T (.tmp tk) (.tmp tv)) (hdk : o.dst = some tk) (hdv : ov.dst = some tv) (hdm : om.dst = none)
    (hz : (P.info? T).bind (·.zero) = some z) (hzs : z.cells = zs.toArray) (hsz : (P.info? T).map (·.size) = some D.length) (hzD : zs.length = D.length) (hD1 : ∀ v ∈ D, v.oneCell' = true) (hg : o.guard = none) (hgm : om.guard = none) (hkn : k < n) (hmn : m < n) (hkm : k ≠ m) (hvk : v ≠ k)
    (hwk : (om.after.any fun e => Region.binds .any e && e.on == k) = true) (hwv : (om.after.any fun e => Region.binds .any e && e.on == v) = true)
    (hB : ∀ g, Region.lexTailB .any (idle l k m o om g).toArray n = true)
    (hd : ((List.range l.length).all fun i => (List.range l.length).all fun j => i == j || (match (l[i]?).bind (·.dst), (l[j]?).bind (·.dst) with | some a, some b => a != b | _, _ => true)) = true)
    (hA : A0.tmps[tv]? = some (.agg D.toArray)) (hAk : tk < A0.tmps.size)
    (h : ∀ (w1 : World) (g : Nat), Below w.heap.size w w1 → w.heap.size ≤ g → wpQuiet P (idle l k m o om g).toArray (fun w' => ∃ s : Fut w1, w' = s.v) (fun a' => a' = A0.put o.dst (.pointer (some ⟨g, 0, none⟩))) ((idle l k m o om g).take n) a)
    (ht : ∀ (g : Nat) (w' : World), w.heap.size ≤ g → Below w.heap.size w w' → Blk w' g T D → wpList P l.toArray Q (l.drop n) (A0.put o.dst (.pointer (some ⟨g, 0, none⟩))) w') : (Code.region id l.toArray true).wp P Q a w := by
  have lk := fun g => idle_like hk hmm hkm g
  have hB' := fun g => hB g
  simp only [Region.lexTailB, Bool.and_eq_true, decide_eq_true_eq] at hB'
  have hlen : ∀ g, (idle l k m o om g).toArray.size = l.length := fun g => by simp [idle]
  have hn : n < l.length := by have := (hB' 0).1.1.1.2; rw [hlen] at this; exact this
  have hdl : (l.drop n).length = l.length - n := by simp
  refine wp_region_any hmo ?_
  have F : Fresh P l.toArray (fun g => (idle l k m o om g).toArray) .any k m v n (l.length - n) o om ov T zs D A0 Q w (fun g listed => Region.seqB .any (idle l k m o om g).toArray (l.length - n) n listed = true ∧ ∀ i, i < n → listed.getD i true = true) tk tv := by
    refine ⟨lk, by simpa using hk, by simpa using hmm, by simpa using hv, fun g => ⟨{ o with op := .move (.const (.pointer (some ⟨g, 0, none⟩))) }, ?_, rfl, hg⟩, fun g => ⟨{ om with op := .move (.const undef) }, ?_, rfl, hgm⟩, hg, hgm, hdk, hdv, hdm,
      fun a w' => by rw [run_alloc_op ho hz, hzs], ?_, hzD, hkn, hmn, hkm, hvk, ?_, ?_, distinct_of hd, fun g listed hX => hX.2, ?_, ?_⟩
    · have h1 := (List.getElem?_eq_some_iff.1 hk).1
      unfold idle
      rw [List.getElem?_toArray, List.getElem?_set_ne (Ne.symm hkm), List.getElem?_set_self h1]
    · have h2 := (List.getElem?_eq_some_iff.1 hmm).1
      unfold idle
      rw [List.getElem?_toArray, List.getElem?_set_self (by simpa using h2)]
    · intro g a w' h1 h2 hb
      rw [hA] at h2
      have hth := hb.there 0 D.length (by rw [hzD]; omega)
      have e1 : a.eval (.tmp tk) = .pointer (some ⟨g, 0, none⟩) := by simp [Act.eval, Array.getD_eq_getD_getElem?, h1]
      have e2 : a.eval (.tmp tv) = .agg D.toArray := by simp [Act.eval, Array.getD_eq_getD_getElem?, h2]
      have := run_storeVar_mid (P := P) w' g 0 T D.toArray (by simpa using hth) (by simpa using hsz) (all_oneCell_toArray hD1)
      unfold execOp
      simp only [hom, e1, e2, Instr.storeAt, Instr.sureAddr, Sem.run_bind, Sem.run_pure, Result.andThen_ok, this]
    · obtain ⟨e, he, h1⟩ := Array.any_eq_true'.1 hwk
      simp only [Bool.and_eq_true, beq_iff_eq] at h1
      exact ⟨e, he, h1.1, h1.2⟩
    · obtain ⟨e, he, h1⟩ := Array.any_eq_true'.1 hwv
      simp only [Bool.and_eq_true, beq_iff_eq] at h1
      exact ⟨e, he, h1.1, h1.2⟩
    · intro g
      rw [hdk]
      simp [Act.put, hAk]
    · intro g listed w' hg1 hb hbk hX
      have hs := hX.1
      rw [(lk g).seqB] at hs
      have := wpAny_of_seq (md := .any) (ops := l.toArray) (Q' := Q) (l.drop n) n listed (A0.put o.dst (.pointer (some ⟨g, 0, none⟩))) w' (fun j => by simp [List.getElem?_drop]) (by rw [hdl]; exact hs) (ht g w' hg1 hb hbk)
      rwa [hdl] at this
  have hfin : ∀ (w1 : World) (g : Nat), Below w.heap.size w w1 → w.heap.size ≤ g → HeadOf P .any (fun g => (idle l k m o om g).toArray) n (fun g listed => Region.seqB .any (idle l k m o om g).toArray (l.length - n) n listed = true ∧ ∀ i, i < n → listed.getD i true = true) A0 o w1 g n (Array.replicate l.length false) a := by
    intro w1 g hb1 hg1
    obtain ⟨⟨⟨⟨hsel, hn'⟩, hs⟩, hc⟩, hlex⟩ := hB' g
    have hsz := hlen g
    rw [hsz] at hlex hn'
    have htl : ((idle l k m o om g).take n).length = n := by simp [idle]; omega
    have inv0 : HeadInv .any (idle l k m o om g).toArray n (Array.replicate l.length false) :=
      ⟨by simp [idle], fun j oj _ hl => (by rw [getD_replicate_false] at hl; cases hl), fun t _ ht' => getD_in (by rw [hsz] at ht'; simpa using ht') (getD_replicate_false _ _)⟩
    have H := anyHead_lex (P := P) (md := .any) (C := FC w1) (g := l.length - n) hsel hs hc (by rw [hsz]; exact hn') ((idle l k m o om g).take n) 0 _ a (fun j hj => by
      have hj' : j < n := by rw [htl] at hj; exact hj
      simp [hj']) (by simpa using htl) inv0 (by rw [htl]; exact hlex) (h w1 g hb1 hg1)
    rw [htl] at H
    refine anyHead_inv ?_ n _ _ inv0 H
    rintro listed a' ⟨h1, h2⟩ hinv
    refine ⟨⟨h1, fun i hi => ?_⟩, h2⟩
    rcases hli : listed.getD i true with _ | _
    · exfalso
      have hready : n ∈ Region.ready .any (idle l k m o om g).toArray listed := by
        obtain ⟨q, hq⟩ : ∃ q, l.length - n = q + 1 := ⟨l.length - n - 1, by omega⟩
        rw [hq] at h1
        simp only [Region.seqB, Bool.and_eq_true, decide_eq_true_eq] at h1
        rw [h1.1]; simp
      exact tail_waits hs hc (by rw [hsz]; exact hn') hinv _ i rfl hi hli n (Nat.le_refl _) hready
    · rfl
  have := early_any F n (Array.replicate l.length false) a { w with drawn := w.drawn + 1 } (getD_in (by simp; have := (List.getElem?_eq_some_iff.1 hk).1; omega) (getD_replicate_false _ _)) (getD_in (by simp; have := (List.getElem?_eq_some_iff.1 hmm).1; omega) (getD_replicate_false _ _)) (Below.refl _ _).drew hfin
  rw [show n + (l.length - n) = l.toArray.size by simp; omega] at this
  simpa using this
end Go.Proofs.YtpnakfeafekneaaGreatDoor

namespace Go.Proofs.YtpnakfeafekneaaGreatDoor
open Go.RowKit
abbrev ptr (b : Nat) : Value := .pointer (some ⟨b, 0, none⟩)
def nodeCells (d : List UInt8) (l r : Value) (s : Nat) : List Value := d.map b8 ++ [l, r, .int .u64 s]
def NodeAt (w : World) : Nat → MT → Prop
  | b, .leaf d => d.length = 32 ∧ Blk w b 243 (nodeCells d (.pointer none) (.pointer none) 1)
  | b, .node d l r => d.length = 32 ∧ ∃ bl br, Blk w b 243 (nodeCells d (ptr bl) (ptr br) (2 ^ (l.ht + 1))) ∧ NodeAt w bl l ∧ NodeAt w br r
def NodesStay (w w' : World) : Prop := ∀ (k : Nat) (cs : List Value), Blk w k 243 cs → Blk w' k 243 cs
theorem NodeAt.stay {w w' : World} (h : NodesStay w w') : ∀ {t : MT} {b : Nat}, NodeAt w b t → NodeAt w' b t
  | .leaf d, b, ⟨h1, h2⟩ => ⟨h1, h _ _ h2⟩
  | .node d l r, b, ⟨h1, bl, br, h2, h3, h4⟩ => ⟨h1, bl, br, h _ _ h2, NodeAt.stay h h3, NodeAt.stay h h4⟩
theorem NodesStay.of_grown {w w' : World} (h : Below w.heap.size w w') : NodesStay w w' := fun _ _ hb => hb.grown h
theorem NodeAt.grown {w w' : World} (h : Below w.heap.size w w') {t : MT} {b : Nat} (hn : NodeAt w b t) : NodeAt w' b t := NodeAt.stay (NodesStay.of_grown h) hn
theorem NodeAt.cells {w : World} {b : Nat} {t : MT} (h : NodeAt w b t) : t.dig.length = 32 ∧ ∃ l r, Blk w b 243 (nodeCells t.dig l r t.size) := by
  cases t with
  | leaf d => exact ⟨h.1, _, _, h.2⟩
  | node d l r => obtain ⟨h1, bl, br, h2, _⟩ := h; exact ⟨h1, _, _, h2⟩
structure NodesAt (w : World) (bs : List Nat) (ts : List MT) : Prop where
  len : bs.length = ts.length
  at_ : ∀ (i b : Nat) (t : MT), bs[i]? = some b → ts[i]? = some t → NodeAt w b t
theorem NodesAt.stay {w w' : World} {bs : List Nat} {ts : List MT} (h : NodesAt w bs ts) (hs : NodesStay w w') : NodesAt w' bs ts := ⟨h.len, fun i b t h1 h2 => (h.at_ i b t h1 h2).stay hs⟩
def TreeAt (w : World) (b n : Nat) (ds : List (List UInt8)) : Prop := ∃ A c bs ts, Blk w b 180 [.int .i64 n, .int .u64 ds.length, .slice A bs.length c] ∧ Rd w A (bs.map ptr) ∧ bs.length ≤ c ∧ (NodesAt w bs ts ∧ Tyd w 196 A) ∧ Peaks n ts ∧ peakLeaves ts = ds ∧ Fits n ds
theorem TreeAt.grown {w w' : World} {b n : Nat} {ds : List (List UInt8)} (h : TreeAt w b n ds) (hb : Below w.heap.size w w') : TreeAt w' b n ds := by
  obtain ⟨A, c, bs, ts, h1, h2, h3, h4, h5⟩ := h
  exact ⟨A, c, bs, ts, h1.grown hb, h2.grown hb, h3, ⟨h4.1.stay (NodesStay.of_grown hb), h4.2.grown hb⟩, h5⟩
theorem tnew_ok (n : Nat) (h1 : 1 ≤ n) (h2 : n ≤ 32) (w : World) :
    Calls Tryz.prog 65 #[.int .i64 n] w fun e w' => e = .returned (.tuple #[ptr w.heap.size, .int .i64 0]) ∧ Below w.heap.size w w' ∧ TreeAt w' w.heap.size n [] := by
  have i1 : ¬ (n : Int) < 1 := by omega
  have i2 : ¬ (32 : Int) < (n : Int) := by omega
  go_enter Tryz.func65, Tryz.ntmps65
  go_wp2_with fail
  go_ret2
  exact ⟨rfl, below_box _ _, none, 0, [], [], Blk.new w _ [.int .i64 n, .int .u64 0, .slice none 0 0], Rd.nil _ _, Nat.le_refl _, ⟨⟨rfl, fun i b t h => by simp at h⟩, Tyd.none _ _⟩, trivial, rfl, fun d hd => by simp at hd⟩
theorem twidth_any (b n : Nat) (ds : List (List UInt8)) (w : World) (h : TreeAt w b n ds) :
    Calls Tryz.prog 78 #[ptr b] w fun e w' => e = .returned (.int .i64 n) ∧ w = w' := by
  obtain ⟨A, c, bs, ts, h1, -⟩ := h
  have c0 : w.cell? ⟨b, 0, none⟩ = some (.int .i64 n) := by rw [h1.cell]; rfl
  clear h1
  go_enter Tryz.func78, Tryz.ntmps78
  go_wp2_with fail
  go_ret
  exact ⟨rfl, rfl⟩
theorem tsize_any (b n : Nat) (ds : List (List UInt8)) (w : World) (h : TreeAt w b n ds) :
    Calls Tryz.prog 106 #[ptr b] w fun e w' => e = .returned (.int .u64 ds.length) ∧ w = w' := by
  obtain ⟨A, c, bs, ts, h1, -⟩ := h
  have c0 : w.cell? ⟨b, 1, none⟩ = some (.int .u64 ds.length) := by rw [h1.cell]; rfl
  clear h1
  go_enter Tryz.func106, Tryz.ntmps106
  go_wp2_with fail
  go_ret
  exact ⟨rfl, rfl⟩
theorem Words.fut {w : World} (h : Words w) : ∀ s : Fut w, Words s.v := fun s => h.below s.below
set_option maxRecDepth 100000 in
theorem tjoin_ok (b n : Nat) (h1 : 1 ≤ n) (h2 : n ≤ 32) (l r : List UInt8) (w : World) (hc : w.cell? ⟨b, 0, none⟩ = some (.int .i64 n)) (hf : Fits n [l, r]) (hw : Words w) :
    Calls Tryz.prog 173 #[ptr b, dg l, dg r] w fun e w' => e = .returned (dg (Dg.node n l r)) ∧ Below w.heap.size w w' := by
  have hl : (l.map b8).length = 32 := by simp [(hf l (by simp)).1]
  have hr : (r.map b8).length = 32 := by simp [(hf r (by simp)).1]
  have HF := hid hf
  have HLl := hid hl
  have HLr := hid hr
  clear hf hl hr
  go_enter Tryz.func173, Tryz.ntmps173
  go_upto_region 1 with fail
  have hz : ((w.alloc (.cells (l.map b8).toArray 40)).alloc (.cells (r.map b8).toArray 40)).heap.size = w.heap.size + 1 + 1 := by simp
  have hb3 := blk_three w (.cells (l.map b8).toArray 40) (.cells (List.replicate 32 (b8 0)).toArray 40) 40 (r.map b8)
  have hn3 := Blk.new ((w.alloc (.cells (l.map b8).toArray 40)).alloc (.cells (r.map b8).toArray 40)) 40 (List.replicate 32 (b8 0))
  rw [hz] at hn3
  refine wp_world (fun w' => Blk w' w.heap.size 40 (l.map b8) ∧ Blk w' (w.heap.size + 1) 40 (r.map b8) ∧ Blk w' (w.heap.size + 1 + 1) 40 (List.replicate 32 (b8 0)) ∧ Below w.heap.size w w' ∧ w'.heap.size = w.heap.size + 1 + 1 + 1)
    ⟨((Blk.new w _ _).alloc _).alloc _, hb3, hn3, (((Below.refl _ _).alloc (Nat.le_refl _) _).alloc (by simp) _).alloc (by rw [hz]; omega) _, by simp⟩ ?_
  clear hz hb3 hn3
  rintro w1 hh
  have HR := hid hh
  clear hh
  have hcc : w1.cell? ⟨b, 0, none⟩ = some (.int .i64 n) := by rw [HR.out.2.2.2.1.cell (p := ⟨b, 0, none⟩) (World.block_lt_of_cell? w _ hc)]; exact hc
  have HCC := hid hcc
  clear hcc
  have hdl : ((Dg.node n l r).map b8).length = 32 := by have := Dg.sum_length n (Dg.nodeIn n l r) h2; unfold Dg.node; simp [this]
  have HDL := hid hdl
  clear hdl
  refine wp_region_fresh 12 10 11 8 _ _ _ 40 (List.replicate 32 (b8 0)) ((Dg.node n l r).map b8) (.agg (List.replicate 32 (b8 0)).toArray) 7 17
    { tmps := #[ptr b, dg l, dg r, undef, ptr w.heap.size, ptr (w.heap.size + 1), ptr (w.heap.size + 1 + 1), undef, undef, .tuple #[dg (Dg.node n l r), .int .i64 0], ptr b, ptr b, ptr b, .int .i64 n, dg l, dg r, .tuple #[dg (Dg.node n l r), .int .i64 0], dg (Dg.node n l r), .int .i64 0, undef], defers := [] }
    (by kernel_rfl) rfl rfl rfl rfl rfl rfl rfl rfl (by kernel_rfl) rfl (by rw [HDL.out]; kernel_rfl) (by rw [HDL.out]; simp) (one_b8 _) rfl rfl (by decide) (by decide) (by decide) (by decide) (by kernel_rfl) (by kernel_rfl) (fun g => by kernel_rfl) (by kernel_rfl) rfl (by simp) ?h ?ht
  case h =>
    intro w2 g hb2 hg
    have hf := Fut.cell (w := w2) (show w2.cell? ⟨b, 0, none⟩ = some (.int .i64 n) from by rw [hb2.cell (p := ⟨b, 0, none⟩) (World.block_lt_of_cell? _ _ HCC.out)]; exact HCC.out)
    have hws := (hw.below (gro HR.out.2.2.2.1 hb2)).fut
    dsimp only [idle, List.take_succ_cons, List.take_zero, List.drop_succ_cons, List.drop_zero, List.set_cons_zero, List.set_cons_succ]
    repeat (first
      | (go_big_quiet_want; (with_reducible refine quiet_ld 40 (.tmp 4) w.heap.size 0 _ 32 _ HLl.out (range_fut (HR.out.1.grown hb2).whole) Tryz.underlying40 rfl (by kernel_rfl) ?_ ?_ ?_); rfl; rfl; simp only [Act.put, List.setIfInBounds_toArray, List.set_cons_zero, List.set_cons_succ]; go_big_quiet_on)
      | (go_big_quiet_want; (with_reducible refine quiet_ld 40 (.tmp 5) (w.heap.size + 1) 0 _ 32 _ HLr.out (range_fut (HR.out.2.1.grown hb2).whole) Tryz.underlying40 rfl (by kernel_rfl) ?_ ?_ ?_); rfl; rfl; simp only [Act.put, List.setIfInBounds_toArray, List.set_cons_zero, List.set_cons_succ]; go_big_quiet_on)
      | go_big_quiet_step (exact Calls.fut_of (node_ok n h1 h2 l r _ HF.out (hws _))))
    exact wpQuiet_nil rfl
  case ht =>
    intro g w2 hg hb2 hgb
    have hsz := HR.out.2.2.2.2
    have h6 : Blk w2 (w.heap.size + 1 + 1) 40 (List.replicate 32 (b8 0)) := HR.out.2.2.1.grown hb2
    have hbl : Below w.heap.size w w2 := gro HR.out.2.2.2.1 hb2
    have hld := hgb.whole
    have ht6 := h6.there 0 32 (by simp)
    have HE := hid hbl
    clear hgb hsz h6 hbl HR hg hb2
    dsimp only [List.drop_succ_cons, List.drop_zero]
    simp only [Act.put, List.setIfInBounds_toArray, List.set_cons_zero, List.set_cons_succ]
    go_wp2_with (first
      | ((with_reducible refine ld_mid 40 (.tmp 7) g 0 _ 32 _ HDL.out hld Tryz.underlying40 rfl (by kernel_rfl) ?_ ?_ ?_ ?_); rfl; rfl; rfl)
      | ((with_reducible refine st_mid 40 (.tmp 6) (.tmp 19) (w.heap.size + 1 + 1) 0 ((Dg.node n l r).map b8) 32 HDL.out ht6 (by kernel_rfl) (one_b8 _) ?_ ?_ ?_ ?_ ?_); rfl; rfl; rfl; rfl))
    exact rt_cell (w.heap.size + 1 + 1) 0 _ 32 _ HDL.out (World.rangeAt_setCells_same _ _ _ _ (by rw [HDL.out]; exact ht6)) Tryz.underlying40 rfl (by kernel_rfl) rfl rfl rfl ⟨rfl, below_setCells _ (by omega) _ _ _ HE.out⟩
end Go.Proofs.YtpnakfeafekneaaGreatDoor

namespace Go.Proofs.YtpnakfeafekneaaGreatDoor
open Go.RowKit
set_option maxRecDepth 100000 in
theorem below_any (k : Nat) (hk : 2 ≤ k) (hk2 : k < 1099511627776) (w : World) :
    Calls Tryz.prog 184 #[.int .u64 k] w fun e w' => e = .returned (.int .u64 (Mt.below k)) ∧ w = w' := by
  go_enter Tryz.func184, Tryz.ntmps184
  go_wp2_with fail
  go_loopg [3] k (fun g s wr => ∃ m i : Nat, m + g = k + 1 ∧ s = .int .u64 m ∧ m = 2 ^ i ∧ m < k ∧ wr = w)
  case atStart => exact ⟨1, 0, by omega, rfl, rfl, by omega, rfl⟩
  case round =>
    obtain ⟨m, i, hm, rfl, hi, hlt, rfl⟩ := hrel
    have HI := hid hi
    clear hi
    have hs : IntKind.u64.wrap ((k : Int) - m) = (k : Int) - m := by rw [IntKind.wrap_u64]; omega
    by_cases h : m < k - m
    · have i1 : (m : Int) < (k : Int) - m := by omega
      have h2 : IntKind.u64.wrap ((m : Int) * 2) = ((m * 2 : Nat) : Int) := by rw [IntKind.wrap_u64]; omega
      have hpos : 0 < m := by rw [HI.out]; exact Nat.two_pow_pos i
      go_wp2_with fail
      go_roundg (k + 1 - m * 2)
      case measure => omega
      case rel => exact ⟨m * 2, i + 1, by omega, by first | rfl | go_num, by rw [HI.out, Nat.pow_succ], by omega, rfl⟩
    · have i1 : ¬ (m : Int) < (k : Int) - m := by omega
      have hb : Mt.below k = m := by rw [Mt.below_eq k i hk (by rw [← HI.out]; omega) (by rw [← HI.out]; omega), HI.out]
      have HB := hid hb
      clear hb
      go_wp2_with fail
      go_ret
      exact ⟨by rw [HB.out]; rfl, rfl⟩
theorem child_any (bn p a sz : Nat) (d : List UInt8) (l r : Value) (w : World) (hp : Blk w p 38 [.int .u64 a]) (hn : Blk w bn 243 (nodeCells d l r sz)) (hd : d.length = 32) (ha : a < sz) (hs : sz < 9223372036854775808) :
    Calls Tryz.prog 210 #[ptr bn, ptr p] w fun e w' => e = .returned (if a < sz / 2 then l else r) ∧ Kept (· = p) w w' ∧ Blk w' p 38 [.int .u64 (if a < sz / 2 then a else a - sz / 2 : Nat)] := by
  have c0 : w.cell? ⟨p, 0, none⟩ = some (.int .u64 a) := by rw [hp.cell]; rfl
  have f0 := hp.frozen 0
  have n1 : w.cell? ⟨bn, 32, none⟩ = some l := by rw [hn.cell]; unfold nodeCells; rw [List.getElem?_append_right (by simp [hd])]; simp [hd]
  have n2 : w.cell? ⟨bn, 33, none⟩ = some r := by rw [hn.cell]; unfold nodeCells; rw [List.getElem?_append_right (by simp [hd])]; simp [hd]
  have n3 : w.cell? ⟨bn, 34, none⟩ = some (.int .u64 sz) := by rw [hn.cell]; unfold nodeCells; rw [List.getElem?_append_right (by simp [hd])]; simp [hd]
  have hne : bn ≠ p := fun e => by
    subst e
    unfold Blk at hp hn
    rw [hp] at hn
    injection hn with hn
    injection hn with hn hn2
    exact absurd hn2 (by decide)
  have HN := hid (And.intro hp hn)
  clear hp hn
  by_cases h : a < sz / 2
  · have i1 : (a : Int) < (sz : Int) / 2 := by omega
    go_enter Tryz.func210, Tryz.ntmps210
    go_upto_region 1 with fail
    go_quiet (fail)
    have n1q : (w.drewN nq).cell? ⟨bn, 32, none⟩ = some l := n1
    go_wp2_with fail
    go_ret
    exact ⟨rfl, (Kept.refl _ _).drewN _, HN.out.1.drewN _⟩
  · have i1 : ¬ (a : Int) < (sz : Int) / 2 := by omega
    have hsub : IntKind.u64.wrap ((a : Int) - (sz : Int) / 2) = ((a - sz / 2 : Nat) : Int) := by rw [IntKind.wrap_u64]; omega
    go_enter Tryz.func210, Tryz.ntmps210
    go_upto_region 1 with fail
    go_quiet (fail)
    go_upto_region 3 with fail
    have d0 : (w.drewN nq).cell? ⟨p, 0, none⟩ = some (.int .u64 a) := c0
    have d2 : (w.drewN nq).cell? ⟨bn, 33, none⟩ = some r := n2
    have d3 : (w.drewN nq).cell? ⟨bn, 34, none⟩ = some (.int .u64 sz) := n3
    refine wp_region_drew_tail 10 (by kernel_rfl) (by kernel_rfl) ?_
    dsimp only [List.take_succ_cons, List.take_zero, List.drop_succ_cons, List.drop_zero]
    repeat go_big_quiet_step (fail)
    refine wpQuiet_nil ?_
    rintro _ ⟨nq2, rfl⟩
    have e0 : ((w.drewN nq).drewN nq2).cell? ⟨p, 0, none⟩ = some (.int .u64 a) := c0
    have e1 : ((w.drewN nq).drewN nq2).frozen? ⟨p, 0, none⟩ = false := f0
    have e2 : ((w.drewN nq).drewN nq2).cell? ⟨bn, 33, none⟩ = some r := n2
    go_wp2_with fail
    go_ret
    exact ⟨rfl, ((Kept.refl _ _).drewN _).set1 0 _, (HN.out.1.drewN _).set_ 0 _⟩
end Go.Proofs.YtpnakfeafekneaaGreatDoor

namespace Go.Proofs.YtpnakfeafekneaaGreatDoor
open Go.RowKit
def ahead (ts : List MT) (j : Nat) : Nat := (peakLeaves (ts.take j)).length
theorem Peaks.get_ok {n : Nat} : ∀ {ts : List MT}, Peaks n ts → ∀ (j : Nat) (hj : j < ts.length), ts[j].ok n
  | t :: ts, h, 0, _ => h.1
  | t :: ts, h, j + 1, hj => Peaks.get_ok h.2.2 j (by simpa using hj)
theorem ahead_succ {n : Nat} {ts : List MT} (hp : Peaks n ts) (j : Nat) (hj : j < ts.length) : ahead ts (j + 1) = ahead ts j + ts[j].size := by
  have hok := hp.get_ok j hj
  unfold ahead peakLeaves
  rw [List.take_succ_eq_append_getElem hj, List.flatMap_append, List.flatMap_cons, List.flatMap_nil, List.append_nil, List.length_append, MT.leaves_len n _ hok]
theorem Peaks.drop {n : Nat} : ∀ {ts : List MT}, Peaks n ts → ∀ j, Peaks n (ts.drop j)
  | [], _, j => by simp [Peaks]
  | t :: ts, h, 0 => h
  | t :: ts, h, j + 1 => Peaks.drop h.2.2 j
theorem ahead_all {ts : List MT} (j : Nat) : peakLeaves ts = peakLeaves (ts.take j) ++ peakLeaves (ts.drop j) := by
  unfold peakLeaves
  rw [← List.flatMap_append, List.take_append_drop]
theorem ahead_dvd {n : Nat} : ∀ {ts : List MT}, Peaks n ts → ∀ (j : Nat) (hj : j < ts.length), 2 ^ (ts[j].ht + 1) ∣ ahead ts j ∨ ahead ts j = 0
  | t :: ts, h, 0, _ => .inr (by simp [ahead, peakLeaves])
  | t :: ts, h, j + 1, hj => by
    left
    have hj' : j < ts.length := by simpa using hj
    have e : ahead (t :: ts) (j + 1) = t.size + ahead ts j := by
      simp [ahead, peakLeaves, MT.leaves_len n t h.1]
    have h1 : 2 ^ (ts[j].ht + 1) ∣ t.size := Nat.pow_dvd_pow 2 (h.2.1 _ (List.getElem_mem hj'))
    rw [e]
    refine Nat.dvd_add h1 ?_
    rcases ahead_dvd h.2.2 j hj' with h2 | h2
    · exact h2
    · rw [h2]; exact Nat.dvd_zero _
theorem block_in {n : Nat} {ts : List MT} (hp : Peaks n ts) (j : Nat) (hj : j < ts.length) (lo k : Nat) (hd : 2 ^ k ∣ lo) (hl : lo + 2 ^ k ≤ (peakLeaves ts).length) (h1 : ahead ts j ≤ lo) (h2 : lo < ahead ts j + ts[j].size) :
    k ≤ ts[j].ht ∧ 2 ^ k ∣ lo - ahead ts j ∧ lo - ahead ts j + 2 ^ k ≤ ts[j].size := by
  have hrest : (peakLeaves (ts.drop j)).length < 2 ^ (ts[j].ht + 1) := by
    have hpd := hp.drop j
    rw [List.drop_eq_getElem_cons hj] at hpd ⊢
    exact Peaks.rest hpd (fun u hu => by
      rcases List.mem_cons.1 hu with rfl | hu
      · omega
      · have := hpd.2.1 u hu; omega)
  have htot : (peakLeaves ts).length = ahead ts j + (peakLeaves (ts.drop j)).length := by
    rw [ahead_all j, List.length_append]; rfl
  have hk : k ≤ ts[j].ht := by
    rcases Nat.lt_or_ge ts[j].ht k with h | h
    · have : 2 ^ (ts[j].ht + 1) ≤ 2 ^ k := Nat.pow_le_pow_right (by decide) h
      omega
    · exact h
  have hdv : 2 ^ k ∣ ahead ts j := by
    rcases ahead_dvd hp j hj with h | h
    · exact Nat.dvd_trans (Nat.pow_dvd_pow 2 (by omega)) h
    · rw [h]; exact Nat.dvd_zero _
  have hdd : 2 ^ k ∣ lo - ahead ts j := Nat.dvd_sub hd hdv
  refine ⟨hk, hdd, ?_⟩
  have hsz : 2 ^ k ∣ ts[j].size := Nat.pow_dvd_pow 2 hk
  obtain ⟨x, hx⟩ := hdd
  obtain ⟨y, hy⟩ := hsz
  have hlt : 2 ^ k * x < 2 ^ k * y := by omega
  have : x < y := Nat.lt_of_mul_lt_mul_left hlt
  have h3 : 2 ^ k * (x + 1) ≤ 2 ^ k * y := Nat.mul_le_mul_left _ this
  rw [Nat.mul_add, Nat.mul_one] at h3
  omega
end Go.Proofs.YtpnakfeafekneaaGreatDoor
