/- Part 11 of this proof. -/
import Derived.Test.YtpnakfeafekneaaGreatDoorRows
import Derived.BigQuiet
import Derived.Deep.LoopGhost
import Derived.Test.YtpnakfeafekneaaGreatDoorG02
import Derived.Test.YtpnakfeafekneaaGreatDoorG06
import Derived.Test.YtpnakfeafekneaaGreatDoorG08
import Derived.Test.YtpnakfeafekneaaGreatDoorG09
import Derived.Test.YtpnakfeafekneaaGreatDoorG10
set_option linter.unusedSimpArgs false
set_option linter.unusedVariables false
set_option maxHeartbeats 8000000
set_option maxRecDepth 100000
namespace Go.Proofs.YtpnakfeafekneaaGreatDoor
open Go.RowKit
def WrB (w:World)(wb:Nat)(l:List UInt8):Prop:=∃ v,Blk w wb 184 [v]∧w.ownsRow (wb+1) 5 1 v l.length (l.map b8)
def WrS (w:World)(wb:Nat)(k:Nat):Prop:=k=wb∨∃ v,Blk w wb 184 [v]∧v.ownBlock=some k
def WK (wb:Nat)(w w':World):Prop:=Qu (WrS w wb) w w'∧∀ k,k<w.heap.size→WrS w' wb k→WrS w wb k
theorem WK.trans {wb:Nat}{a b c:World}(h:WK wb a b)(k:WK wb b c):WK wb a c:=
 ⟨h.1.trans' k.1 h.2,fun i hi hs=>h.2 i hi (k.2 i (Nat.lt_of_lt_of_le hi h.1.size) hs)⟩
theorem WK.of_grown {wb:Nat}{w w':World}(h:Below w.heap.size w w')(hb:wb<w.heap.size):WK wb w w':=by
 refine⟨Qu.of_grown h,fun k hk hs=>?_⟩
 rcases hs with rfl|⟨v,h1,h2⟩
 ·exact .inl rfl
 ·refine .inr ⟨v,?_,h2⟩
  have:=h.block wb hb
  unfold Blk at h1 ⊢
  rw[← this];exact h1
theorem WrB.lt {w:World}{wb:Nat}{l:List UInt8}(h:WrB w wb l):wb<w.heap.size:=by obtain⟨v,h1,_⟩:=h;exact h1.lt
theorem WrB.grown {w w':World}{wb:Nat}{l:List UInt8}(h:WrB w wb l)(hb:Below w.heap.size w w'):WrB w' wb l:=by
 obtain⟨v,h1,h2⟩:=h
 exact⟨v,h1.grown hb,Qg h2 hb⟩
theorem WrB.new (w:World):WrB (w.alloc (.cells #[.slice none 0 0] 184)) w.heap.size []:=⟨_,Blk.new w _ [.slice none 0 0],World.ownsRow_nil _ _ _ _⟩
theorem Qc7:(Tryz.prog.info? 5).map (fun i=>(i.zero,i.size,i.bytes))=some (some (.int .u8 0),1,1):=by kernel_rfl
theorem JO (wb:Nat)(l p:List UInt8)(A:Option Addr)(c:Nat)(w:World)(hw:WrB w wb l)(hp:Rd w A (p.map b8))(hlen:l.length+p.length<70368744177664):
 Calls Tryz.prog 158 #[.pointer (some ⟨wb,0,none⟩),.slice A p.length c] w fun e w'=>e= .returned (.tuple #[])∧WrB w' wb (l++p)∧WK wb w w':=by
 obtain⟨v,hb,hown⟩:=hw
 have hlt:=hb.lt
 have c0:w.cell? ⟨wb,0,none⟩=some v:=by rw[hb.cell];rfl
 obtain⟨A0,c0',rfl,hrd,hnc⟩:=QC hown
 have HB:=hid (Qa hb (Qa hown hp))
 clear hb hown hp hrd
 go_enter Tryz.func158,Tryz.ntmps158
 go_wp2_with (
  ((with_reducible refine Q1 (.tmp 10) (.tmp 11) 34 Tryz.underlying34 Qc7 rfl (by decide) HB.out.2.1 p.length c (by simp) HB.out.2.2 (Qi p) (by unfold maxLen;omega) (by omega) (by omega) ?_ ?_ ?_ ?_ ?_);rfl;rfl;rfl;rfl
   intro v' w1 hown' hg hat _
   have hk:=Qn hg
   have hne:(Value.slice A0 l.length c0').ownBlock≠some wb:=Xz HB.out.2.1 HB.out.1 (by decide)
   have hb1:Blk w1 wb 184 [.slice A0 l.length c0']:=hk.blk HB.out.1 hne
   have c1:w1.cell? ⟨wb,0,none⟩=some (.slice A0 l.length c0'):=(by rw[hb1.cell];rfl)
   have f1:=hb1.frozen 0
   have HN:=hid (Qa hown' (Qa hg (Qa hat (Qa hk (Qa hne hb1)))))
   clear hown' hg hat hk hne hb1
   obtain⟨A1,c1',rfl,-,-⟩:=QC HN.out.1))
 go_end0
 obtain⟨hown',hg,hat,hk,hne,hb1⟩:=HN.out
 have hb2:Blk (w1.setCell ⟨wb,0,none⟩ (.slice A1 (l.length+p.length) c1')) wb 184 [.slice A1 (l.length+p.length) c1']:=hb1.set_ 0 _
 have hne':(Value.slice A1 (l.length+p.length) c1').ownBlock≠some wb:=by
  rcases hat with e|e<;>rw[e]
  ·exact hne
  ·simp;omega
 refine⟨rfl,⟨_,hb2,?_⟩,?_,?_⟩
 ·rw[List.length_append,List.map_append]
  exact XM (S:=(· =wb)) hown' ((Qu.refl _ _).set1 0 _) (fun k hk e=>hne' (by rw[hk,e]))
 ·refine Qu.setCell (hk.mono fun k hk hs=>?_) (.inl (.inl rfl)) _
  exact .inr ⟨_,HB.out.1,hs⟩
 ·rintro k hkl (rfl|⟨v,h1,h2⟩)
  ·exact .inl rfl
  ·unfold Blk at hb2 h1
   rw[hb2] at h1
   cases h1
   rcases hat with e|e
   ·rw[e] at h2;exact .inr ⟨_,HB.out.1,h2⟩
   ·rw[e] at h2;cases h2;omega
def XN (w:World)(t:TypeId)(size n:Nat)(cs:List Value)(e:Ending)(w':World):Prop:=
 ∃ v,e= .returned v∧Below w.heap.size w w'∧w'.ownsRow w.heap.size t size v n cs∧(0<n→v= .slice none 0 0→False)
theorem JP:(Tryz.prog.info? 5).map (fun i=>(i.zero,i.size,i.bytes))=some (some (.int .u8 0),1,1):=by kernel_rfl
theorem KL (A:Option Addr)(n c:Nat)(cs:List Value)(w:World)(hl:cs.length=n*1)(hr:Rd w A cs)(h1:∀ u∈cs,u.oneCell'=true)(hn:n*1≤140737488355328):
 Calls Tryz.prog 95 #[.slice A n c] w fun e w'=>XN w 5 1 n cs e w':=by
 have heq:=Lib.run_eql_slice_nil (P:=Tryz.prog) w _ _ A n c 0 0 Tryz.underlying34
 cases A with
 |none=>
  have hc0:cs=[]:=by
   rcases cs with _|⟨x,r⟩
   ·rfl
   ·obtain⟨g,o,h,_⟩:=hr (by simp);cases h
  have hn0:n=0:=by subst hc0;simp at hl;omega
  subst hc0;subst hn0
  simp only[Option.isNone_none] at heq
  go_enter Tryz.func95,Tryz.ntmps95
  go_wp2_with fail
  go_ret
  exact⟨_,rfl,Below.refl _ _,World.ownsRow_nil _ _ _ _,by simp⟩
 |some ad=>
  simp only[Option.isNone_some] at heq
  have HR:=hid (Qa hl (Qa hr h1))
  clear hl hr h1
  have hown0:(w.alloc (.cells #[] 5)).ownsRow w.heap.size 5 1 (.slice (some ⟨w.heap.size,0,none⟩) 0 0) 0 []:=
   ⟨by simp,.inr ⟨w.heap.size,0,#[],rfl,Nat.le_refl _,heap_alloc_new _ _,Nat.le_refl _,Nat.zero_le _,by simp,by simp⟩⟩
  have hb1:Below w.heap.size w (w.alloc (.cells #[] 5)):=(Below.refl _ _).alloc (Nat.le_refl _) _
  have HO:=hid (Qa hown0 hb1)
  clear hown0 hb1
  go_enter Tryz.func95,Tryz.ntmps95
  go_wp2_with (
   ((with_reducible refine Q1 (.tmp 5) (.tmp 6) 34 Tryz.underlying34 JP rfl (by decide) HO.out.1 n c HR.out.1 (HR.out.2.1.grown HO.out.2) HR.out.2.2 (by unfold maxLen;omega) (by omega) (by have:=HO.out.2.size;omega) ?_ ?_ ?_ ?_ ?_);rfl;rfl;rfl;rfl
    intro v' w1 hown' hg hat _
    have HN:=hid (Qa hown' (Qa hg hat))
    clear hown' hg hat))
  go_ret
  obtain⟨hown',hg,hat⟩:=HN.out
  rw[Nat.zero_add,List.nil_append] at hown'
  refine⟨_,rfl,?_,hown',fun _ hv=>?_⟩
  ·exact (Qn hg).step HO.out.2 HO.out.2.size (fun k hk e=>by have e2:=Option.some.inj e;subst e2;exact absurd hk (Nat.lt_irrefl _))
  ·subst hv;rcases hat with e|e<;>cases e
theorem Qc8:(Tryz.prog.info? 5).map (fun i=>(i.zero,i.size,i.bytes))=some (some (.int .u8 0),1,1):=by kernel_rfl
theorem Qgy (A:Option Addr)(n c:Nat)(cs:List Value)(w:World)(hl:cs.length=n*1)(hr:Rd w A cs)(h1:∀ u∈cs,u.oneCell'=true)(hn:n*1≤140737488355328):
 Calls Tryz.prog 113 #[.slice A n c] w fun e w'=>XN w 5 1 n cs e w':=by
 have heq:=Lib.run_eql_slice_nil (P:=Tryz.prog) w _ _ A n c 0 0 Tryz.underlying34
 cases A with
 |none=>
  have hc0:cs=[]:=by
   rcases cs with _|⟨x,r⟩
   ·rfl
   ·obtain⟨g,o,h,_⟩:=hr (by simp);cases h
  have hn0:n=0:=by subst hc0;simp at hl;omega
  subst hc0;subst hn0
  simp only[Option.isNone_none] at heq
  go_enter Tryz.func113,Tryz.ntmps113
  go_wp2_with fail
  go_ret
  exact⟨_,rfl,Below.refl _ _,World.ownsRow_nil _ _ _ _,by simp⟩
 |some ad=>
  simp only[Option.isNone_some] at heq
  have HR:=hid (Qa hl (Qa hr h1))
  clear hl hr h1
  have hown0:(w.alloc (.cells #[] 5)).ownsRow w.heap.size 5 1 (.slice (some ⟨w.heap.size,0,none⟩) 0 0) 0 []:=
   ⟨by simp,.inr ⟨w.heap.size,0,#[],rfl,Nat.le_refl _,heap_alloc_new _ _,Nat.le_refl _,Nat.zero_le _,by simp,by simp⟩⟩
  have hb1:Below w.heap.size w (w.alloc (.cells #[] 5)):=(Below.refl _ _).alloc (Nat.le_refl _) _
  have HO:=hid (Qa hown0 hb1)
  clear hown0 hb1
  go_enter Tryz.func113,Tryz.ntmps113
  go_wp2_with (
   ((with_reducible refine Q1 (.tmp 5) (.tmp 6) 34 Tryz.underlying34 Qc8 rfl (by decide) HO.out.1 n c HR.out.1 (HR.out.2.1.grown HO.out.2) HR.out.2.2 (by unfold maxLen;omega) (by omega) (by have:=HO.out.2.size;omega) ?_ ?_ ?_ ?_ ?_);rfl;rfl;rfl;rfl
    intro v' w1 hown' hg hat _
    have HN:=hid (Qa hown' (Qa hg hat))
    clear hown' hg hat))
  go_ret
  obtain⟨hown',hg,hat⟩:=HN.out
  rw[Nat.zero_add,List.nil_append] at hown'
  refine⟨_,rfl,?_,hown',fun _ hv=>?_⟩
  ·exact (Qn hg).step HO.out.2 HO.out.2.size (fun k hk e=>by have e2:=Option.some.inj e;subst e2;exact absurd hk (Nat.lt_irrefl _))
  ·subst hv;rcases hat with e|e<;>cases e
theorem YR:(Tryz.prog.info? 42).map (fun i=>(i.zero,i.size,i.bytes))=some (some (.agg (.int .u64 0 :: List.replicate 64 (.int .u8 0)).toArray),65,72):=by kernel_rfl
theorem V0 (A:Option Addr)(n c:Nat)(cs:List Value)(w:World)(hl:cs.length=n*65)(hr:Rd w A cs)(h1:∀ u∈cs,u.oneCell'=true)(hn:n*72≤140737488355328):
 Calls Tryz.prog 69 #[.slice A n c] w fun e w'=>XN w 42 65 n cs e w':=by
 have heq:=Lib.run_eql_slice_nil (P:=Tryz.prog) w _ _ A n c 0 0 Tryz.underlying24
 cases A with
 |none=>
  have hc0:cs=[]:=by
   rcases cs with _|⟨x,r⟩
   ·rfl
   ·obtain⟨g,o,h,_⟩:=hr (by simp);cases h
  have hn0:n=0:=by subst hc0;simp at hl;omega
  subst hc0;subst hn0
  simp only[Option.isNone_none] at heq
  go_enter Tryz.func69,Tryz.ntmps69
  go_wp2_with fail
  go_ret
  exact⟨_,rfl,Below.refl _ _,World.ownsRow_nil _ _ _ _,by simp⟩
 |some ad=>
  simp only[Option.isNone_some] at heq
  have HR:=hid (Qa hl (Qa hr h1))
  clear hl hr h1
  have hown0:(w.alloc (.cells #[] 42)).ownsRow w.heap.size 42 65 (.slice (some ⟨w.heap.size,0,none⟩) 0 0) 0 []:=
   ⟨by simp,.inr ⟨w.heap.size,0,#[],rfl,Nat.le_refl _,heap_alloc_new _ _,Nat.le_refl _,Nat.zero_le _,by simp,by simp⟩⟩
  have hb1:Below w.heap.size w (w.alloc (.cells #[] 42)):=(Below.refl _ _).alloc (Nat.le_refl _) _
  have HO:=hid (Qa hown0 hb1)
  clear hown0 hb1
  go_enter Tryz.func69,Tryz.ntmps69
  go_wp2_with (
   ((with_reducible refine Q1 (.tmp 5) (.tmp 6) 24 Tryz.underlying24 YR rfl (by decide) HO.out.1 n c HR.out.1 (HR.out.2.1.grown HO.out.2) HR.out.2.2 (by unfold maxLen;omega) (by omega) (by have:=HO.out.2.size;omega) ?_ ?_ ?_ ?_ ?_);rfl;rfl;rfl;rfl
    intro v' w1 hown' hg hat _
    have HN:=hid (Qa hown' (Qa hg hat))
    clear hown' hg hat))
  go_ret
  obtain⟨hown',hg,hat⟩:=HN.out
  rw[Nat.zero_add,List.nil_append] at hown'
  refine⟨_,rfl,?_,hown',fun _ hv=>?_⟩
  ·exact (Qn hg).step HO.out.2 HO.out.2.size (fun k hk e=>by have e2:=Option.some.inj e;subst e2;exact absurd hk (Nat.lt_irrefl _))
  ·subst hv;rcases hat with e|e<;>cases e
theorem ZP:(Tryz.prog.info? 36).map (fun i=>(i.zero,i.size,i.bytes))=some (some (.agg #[.int .u8 0,.slice none 0 0,.slice none 0 0]),3,56):=by kernel_rfl
theorem YH (A:Option Addr)(n c:Nat)(cs:List Value)(w:World)(hl:cs.length=n*3)(hr:Rd w A cs)(h1:∀ u∈cs,u.oneCell'=true)(hn:n*56≤140737488355328):
 Calls Tryz.prog 70 #[.slice A n c] w fun e w'=>XN w 36 3 n cs e w':=by
 have heq:=Lib.run_eql_slice_nil (P:=Tryz.prog) w _ _ A n c 0 0 Tryz.underlying22
 cases A with
 |none=>
  have hc0:cs=[]:=by
   rcases cs with _|⟨x,r⟩
   ·rfl
   ·obtain⟨g,o,h,_⟩:=hr (by simp);cases h
  have hn0:n=0:=by subst hc0;simp at hl;omega
  subst hc0;subst hn0
  simp only[Option.isNone_none] at heq
  go_enter Tryz.func70,Tryz.ntmps70
  go_wp2_with fail
  go_ret
  exact⟨_,rfl,Below.refl _ _,World.ownsRow_nil _ _ _ _,by simp⟩
 |some ad=>
  simp only[Option.isNone_some] at heq
  have HR:=hid (Qa hl (Qa hr h1))
  clear hl hr h1
  have hown0:(w.alloc (.cells #[] 36)).ownsRow w.heap.size 36 3 (.slice (some ⟨w.heap.size,0,none⟩) 0 0) 0 []:=
   ⟨by simp,.inr ⟨w.heap.size,0,#[],rfl,Nat.le_refl _,heap_alloc_new _ _,Nat.le_refl _,Nat.zero_le _,by simp,by simp⟩⟩
  have hb1:Below w.heap.size w (w.alloc (.cells #[] 36)):=(Below.refl _ _).alloc (Nat.le_refl _) _
  have HO:=hid (Qa hown0 hb1)
  clear hown0 hb1
  go_enter Tryz.func70,Tryz.ntmps70
  go_wp2_with (
   ((with_reducible refine Q1 (.tmp 5) (.tmp 6) 22 Tryz.underlying22 ZP rfl (by decide) HO.out.1 n c HR.out.1 (HR.out.2.1.grown HO.out.2) HR.out.2.2 (by unfold maxLen;omega) (by omega) (by have:=HO.out.2.size;omega) ?_ ?_ ?_ ?_ ?_);rfl;rfl;rfl;rfl
    intro v' w1 hown' hg hat _
    have HN:=hid (Qa hown' (Qa hg hat))
    clear hown' hg hat))
  go_ret
  obtain⟨hown',hg,hat⟩:=HN.out
  rw[Nat.zero_add,List.nil_append] at hown'
  refine⟨_,rfl,?_,hown',fun _ hv=>?_⟩
  ·exact (Qn hg).step HO.out.2 HO.out.2.size (fun k hk e=>by have e2:=Option.some.inj e;subst e2;exact absurd hk (Nat.lt_irrefl _))
  ·subst hv;rcases hat with e|e<;>cases e
theorem Wc:(Tryz.prog.info? 196).map (fun i=>(i.zero,i.size,i.bytes))=some (some (.pointer none),1,8):=by kernel_rfl
theorem V1 (A:Option Addr)(n c:Nat)(cs:List Value)(w:World)(hl:cs.length=n*1)(hr:Rd w A cs)(h1:∀ u∈cs,u.oneCell'=true)(hn:n*8≤140737488355328):
 Calls Tryz.prog 120 #[.slice A n c] w fun e w'=>XN w 196 1 n cs e w':=by
 have heq:=Lib.run_eql_slice_nil (P:=Tryz.prog) w _ _ A n c 0 0 Tryz.underlying178
 cases A with
 |none=>
  have hc0:cs=[]:=by
   rcases cs with _|⟨x,r⟩
   ·rfl
   ·obtain⟨g,o,h,_⟩:=hr (by simp);cases h
  have hn0:n=0:=by subst hc0;simp at hl;omega
  subst hc0;subst hn0
  simp only[Option.isNone_none] at heq
  go_enter Tryz.func120,Tryz.ntmps120
  go_wp2_with fail
  go_ret
  exact⟨_,rfl,Below.refl _ _,World.ownsRow_nil _ _ _ _,by simp⟩
 |some ad=>
  simp only[Option.isNone_some] at heq
  have HR:=hid (Qa hl (Qa hr h1))
  clear hl hr h1
  have hown0:(w.alloc (.cells #[] 196)).ownsRow w.heap.size 196 1 (.slice (some ⟨w.heap.size,0,none⟩) 0 0) 0 []:=
   ⟨by simp,.inr ⟨w.heap.size,0,#[],rfl,Nat.le_refl _,heap_alloc_new _ _,Nat.le_refl _,Nat.zero_le _,by simp,by simp⟩⟩
  have hb1:Below w.heap.size w (w.alloc (.cells #[] 196)):=(Below.refl _ _).alloc (Nat.le_refl _) _
  have HO:=hid (Qa hown0 hb1)
  clear hown0 hb1
  go_enter Tryz.func120,Tryz.ntmps120
  go_wp2_with (
   ((with_reducible refine Q1 (.tmp 5) (.tmp 6) 178 Tryz.underlying178 Wc rfl (by decide) HO.out.1 n c HR.out.1 (HR.out.2.1.grown HO.out.2) HR.out.2.2 (by unfold maxLen;omega) (by omega) (by have:=HO.out.2.size;omega) ?_ ?_ ?_ ?_ ?_);rfl;rfl;rfl;rfl
    intro v' w1 hown' hg hat _
    have HN:=hid (Qa hown' (Qa hg hat))
    clear hown' hg hat))
  go_ret
  obtain⟨hown',hg,hat⟩:=HN.out
  rw[Nat.zero_add,List.nil_append] at hown'
  refine⟨_,rfl,?_,hown',fun _ hv=>?_⟩
  ·exact (Qn hg).step HO.out.2 HO.out.2.size (fun k hk e=>by have e2:=Option.some.inj e;subst e2;exact absurd hk (Nat.lt_irrefl _))
  ·subst hv;rcases hat with e|e<;>cases e
theorem YS:(Tryz.prog.info? 166).map (fun i=>(i.zero,i.size,i.bytes))=some (some (.agg #[.slice none 0 0,.slice none 0 0]),2,48):=by kernel_rfl
theorem Z4 (A:Option Addr)(n c:Nat)(cs:List Value)(w:World)(hl:cs.length=n*2)(hr:Rd w A cs)(h1:∀ u∈cs,u.oneCell'=true)(hn:n*48≤140737488355328):
 Calls Tryz.prog 162 #[.slice A n c] w fun e w'=>XN w 166 2 n cs e w':=by
 have heq:=Lib.run_eql_slice_nil (P:=Tryz.prog) w _ _ A n c 0 0 Tryz.underlying110
 cases A with
 |none=>
  have hc0:cs=[]:=by
   rcases cs with _|⟨x,r⟩
   ·rfl
   ·obtain⟨g,o,h,_⟩:=hr (by simp);cases h
  have hn0:n=0:=by subst hc0;simp at hl;omega
  subst hc0;subst hn0
  simp only[Option.isNone_none] at heq
  go_enter Tryz.func162,Tryz.ntmps162
  go_wp2_with fail
  go_ret
  exact⟨_,rfl,Below.refl _ _,World.ownsRow_nil _ _ _ _,by simp⟩
 |some ad=>
  simp only[Option.isNone_some] at heq
  have HR:=hid (Qa hl (Qa hr h1))
  clear hl hr h1
  have hown0:(w.alloc (.cells #[] 166)).ownsRow w.heap.size 166 2 (.slice (some ⟨w.heap.size,0,none⟩) 0 0) 0 []:=
   ⟨by simp,.inr ⟨w.heap.size,0,#[],rfl,Nat.le_refl _,heap_alloc_new _ _,Nat.le_refl _,Nat.zero_le _,by simp,by simp⟩⟩
  have hb1:Below w.heap.size w (w.alloc (.cells #[] 166)):=(Below.refl _ _).alloc (Nat.le_refl _) _
  have HO:=hid (Qa hown0 hb1)
  clear hown0 hb1
  go_enter Tryz.func162,Tryz.ntmps162
  go_wp2_with (
   ((with_reducible refine Q1 (.tmp 5) (.tmp 6) 110 Tryz.underlying110 YS rfl (by decide) HO.out.1 n c HR.out.1 (HR.out.2.1.grown HO.out.2) HR.out.2.2 (by unfold maxLen;omega) (by omega) (by have:=HO.out.2.size;omega) ?_ ?_ ?_ ?_ ?_);rfl;rfl;rfl;rfl
    intro v' w1 hown' hg hat _
    have HN:=hid (Qa hown' (Qa hg hat))
    clear hown' hg hat))
  go_ret
  obtain⟨hown',hg,hat⟩:=HN.out
  rw[Nat.zero_add,List.nil_append] at hown'
  refine⟨_,rfl,?_,hown',fun _ hv=>?_⟩
  ·exact (Qn hg).step HO.out.2 HO.out.2.size (fun k hk e=>by have e2:=Option.some.inj e;subst e2;exact absurd hk (Nat.lt_irrefl _))
  ·subst hv;rcases hat with e|e<;>cases e
theorem Wd:(Tryz.prog.info? 157).map (fun i=>(i.zero,i.size,i.bytes))=some (some (.nilIface),1,16):=by kernel_rfl
theorem Zk (A:Option Addr)(n c:Nat)(cs:List Value)(w:World)(hl:cs.length=n*1)(hr:Rd w A cs)(h1:∀ u∈cs,u.oneCell'=true)(hn:n*16≤140737488355328):
 Calls Tryz.prog 164 #[.slice A n c] w fun e w'=>XN w 157 1 n cs e w':=by
 have heq:=Lib.run_eql_slice_nil (P:=Tryz.prog) w _ _ A n c 0 0 Tryz.underlying169
 cases A with
 |none=>
  have hc0:cs=[]:=by
   rcases cs with _|⟨x,r⟩
   ·rfl
   ·obtain⟨g,o,h,_⟩:=hr (by simp);cases h
  have hn0:n=0:=by subst hc0;simp at hl;omega
  subst hc0;subst hn0
  simp only[Option.isNone_none] at heq
  go_enter Tryz.func164,Tryz.ntmps164
  go_wp2_with fail
  go_ret
  exact⟨_,rfl,Below.refl _ _,World.ownsRow_nil _ _ _ _,by simp⟩
 |some ad=>
  simp only[Option.isNone_some] at heq
  have HR:=hid (Qa hl (Qa hr h1))
  clear hl hr h1
  have hown0:(w.alloc (.cells #[] 157)).ownsRow w.heap.size 157 1 (.slice (some ⟨w.heap.size,0,none⟩) 0 0) 0 []:=
   ⟨by simp,.inr ⟨w.heap.size,0,#[],rfl,Nat.le_refl _,heap_alloc_new _ _,Nat.le_refl _,Nat.zero_le _,by simp,by simp⟩⟩
  have hb1:Below w.heap.size w (w.alloc (.cells #[] 157)):=(Below.refl _ _).alloc (Nat.le_refl _) _
  have HO:=hid (Qa hown0 hb1)
  clear hown0 hb1
  go_enter Tryz.func164,Tryz.ntmps164
  go_wp2_with (
   ((with_reducible refine Q1 (.tmp 5) (.tmp 6) 169 Tryz.underlying169 Wd rfl (by decide) HO.out.1 n c HR.out.1 (HR.out.2.1.grown HO.out.2) HR.out.2.2 (by unfold maxLen;omega) (by omega) (by have:=HO.out.2.size;omega) ?_ ?_ ?_ ?_ ?_);rfl;rfl;rfl;rfl
    intro v' w1 hown' hg hat _
    have HN:=hid (Qa hown' (Qa hg hat))
    clear hown' hg hat))
  go_ret
  obtain⟨hown',hg,hat⟩:=HN.out
  rw[Nat.zero_add,List.nil_append] at hown'
  refine⟨_,rfl,?_,hown',fun _ hv=>?_⟩
  ·exact (Qn hg).step HO.out.2 HO.out.2.size (fun k hk e=>by have e2:=Option.some.inj e;subst e2;exact absurd hk (Nat.lt_irrefl _))
  ·subst hv;rcases hat with e|e<;>cases e
theorem Xt (w:World)(x:UInt8):Rd (w.alloc (.cells #[b8 x] 5)) (some ⟨w.heap.size,0,none⟩) ([x].map b8):=Rd.of _ (Blk.new w 5 [b8 x]).whole
theorem Qb (w:World)(o:Obj):Below w.heap.size w (w.alloc o):=(Below.refl _ _).alloc (Nat.le_refl _) _
theorem We (wb:Nat)(l:List UInt8)(x:UInt8)(w:World)(hw:WrB w wb l)(hlen:l.length<35184372088832):
 Calls Tryz.prog 126 #[.pointer (some ⟨wb,0,none⟩),b8 x] w fun e w'=>e= .returned (.tuple #[])∧WrB w' wb (l++[x])∧WK wb w w':=by
 have HW:=hid hw
 clear hw
 go_enter Tryz.func126,Tryz.ntmps126
 go_wp2_with (
  (go_at_call 158
   refine (JO wb l [x] (some ⟨w.heap.size,0,none⟩) 1 _ (HW.out.grown (Qb w _)) (Xt w x) (by simp;omega)).mono ?_
   rintro e w1 ⟨rfl,h1,h2⟩
   have HN:=hid (Qa h1 h2)
   clear h1 h2))
 go_end0
 exact⟨rfl,HN.out.1,(WK.of_grown (Qb w _) HW.out.lt).trans HN.out.2⟩
theorem Vp (wb:Nat)(l p:List UInt8)(A:Option Addr)(c:Nat)(w:World)(hw:WrB w wb l)(hp:Rd w A (p.map b8))(hlen:l.length+p.length<70368744177664):
 Calls Tryz.prog 128 #[.pointer (some ⟨wb,0,none⟩),.slice A p.length c] w fun e w'=>e= .returned (.tuple #[])∧WrB w' wb (l++p)∧WK wb w w':=by
 go_enter Tryz.func128,Tryz.ntmps128
 go_wp2_with (go_at_call 158;refine (JO wb l p A c _ hw hp hlen).mono ?_;rintro e w1 ⟨rfl,h1,h2⟩;have HN:=hid (Qa h1 h2);clear h1 h2)
 go_end0
 exact⟨rfl,HN.out.1,HN.out.2⟩
theorem YT (v i:Nat):(v:Int) / 2^(8*i) % 256=n8 (Wi.wbyte v i):=by
 unfold Wi.wbyte n8
 rw[UInt8.toNat_ofNat']
 simp
theorem Qc9 (v:Nat)(h:v<128):(v:Int)=n8 (Wi.lo7 v):=by
 unfold n8 Wi.lo7
 rw[UInt8.toNat_ofNat']
 omega
theorem Qhn:∀ m:Nat,m<256→bits BinOp.or IntKind.u8 (m:Int) 128=((m % 128+128:Nat):Int):=by decide +kernel
theorem Qfg (v:Nat):bits BinOp.or IntKind.u8 ((v:Int) % 256) 128=n8 (Wi.hi7 v):=by
 have:=Qhn (v % 256) (by omega)
 rw[show ((v:Int) % 256)=((v % 256:Nat):Int) from by omega,this]
 unfold n8 Wi.hi7
 rw[UInt8.toNat_ofNat']
 omega
theorem V2 (wb:Nat)(l:List UInt8)(v:Nat)(k:Nat)(w:World)(hk8:k≤8)(hw:WrB w wb l)(hlen:l.length<17592186044416):
 Calls Tryz.prog 177 #[.pointer (some ⟨wb,0,none⟩),.int .u64 v,.int .i64 k] w fun e w'=>e= .returned (.tuple #[])∧WrB w' wb (l++Wi.wide v k)∧WK wb w w':=by
 have HW:=hid hw
 clear hw
 go_enter Tryz.func177,Tryz.ntmps177
 go_wp2_with fail
 go_loopg [6] k (fun g i wr=>∃ j:Nat,j+g=k∧i= .int .i64 ((g:Int)-1)∧WrB wr wb (l++(Wi.wide v k).take j)∧WK wb w wr)
 case atStart=>exact⟨0,by omega,rfl,by simpa using HW.out,WK.of_grown (Below.refl _ _) HW.out.lt⟩
 case round=>
  clear HW
  obtain⟨j,hj,rfl,hi⟩:=hrel
  have HI:=hid hi
  clear hi
  by_cases hlt:0<gk
  ·have h1:(0:Int)≤(gk:Int)-1:=by omega
   have e1:(gk:Int)-1=((gk-1:Nat):Int):=by omega
   have hv:=YT v (gk-1)
   go_wp2_with (
    (go_at_call 158
     rw[hv]
     refine (JO wb (l++(Wi.wide v k).take j) [Wi.wbyte v (gk-1)] (some ⟨wr.heap.size,0,none⟩) 1 _ (HI.out.1.grown (Qb wr _)) (Xt wr _) (by have:=Wi.wide_length v k;simp;omega)).mono ?_
     rintro e w1 ⟨rfl,h1,h2⟩
     have HN:=hid (Qa h1 h2)
     clear h1 h2))
   go_roundg (gk-1)
   case measure=>omega
   case rel=>
    refine⟨j+1,by omega,rfl,?_,HI.out.2.trans ((WK.of_grown (Qb wr _) HI.out.1.lt).trans HN.out.2)⟩
    rw[Wi.wide_take v k j (by omega),←List.append_assoc,show k-1-j=gk-1 from by omega]
    exact HN.out.1
  ·obtain rfl:j=k:=by omega
   go_wp2_with fail
   go_end0
   have:=HI.out.1
   rw[List.take_of_length_le (by rw[Wi.wide_length];exact Nat.le_refl _)] at this
   exact⟨rfl,this,HI.out.2⟩
theorem Qal (wb:Nat)(l:List UInt8)(v:Nat)(w:World)(hv:v<65536)(hw:WrB w wb l)(hlen:l.length<17592186044416):
 Calls Tryz.prog 136 #[.pointer (some ⟨wb,0,none⟩),.int .u16 v] w fun e w'=>e= .returned (.tuple #[])∧WrB w' wb (l++Wi.wide v 2)∧WK wb w w':=by
 have hv0:(0:Int)≤(v:Int):=by omega
 go_enter Tryz.func136,Tryz.ntmps136
 go_wp2_with (go_at_call 177;refine (V2 wb l v 2 _ (by omega) hw hlen).mono ?_;rintro e w1 ⟨rfl,h1,h2⟩;have HN:=hid (Qa h1 h2);clear h1 h2)
 go_end0
 exact⟨rfl,HN.out.1,HN.out.2⟩
theorem Qfh (wb:Nat)(l:List UInt8)(v:Nat)(w:World)(hw:WrB w wb l)(hlen:l.length<17592186044416):
 Calls Tryz.prog 127 #[.pointer (some ⟨wb,0,none⟩),.int .u64 v] w fun e w'=>e= .returned (.tuple #[])∧WrB w' wb (l++Wi.wide v 8)∧WK wb w w':=by
 go_enter Tryz.func127,Tryz.ntmps127
 go_wp2_with (go_at_call 177;refine (V2 wb l v 8 _ (by omega) hw hlen).mono ?_;rintro e w1 ⟨rfl,h1,h2⟩;have HN:=hid (Qa h1 h2);clear h1 h2)
 go_end0
 exact⟨rfl,HN.out.1,HN.out.2⟩
theorem K6 (wb:Nat)(l:List UInt8)(v:Nat)(w:World)(hv:v<18446744073709551616)(hw:WrB w wb l)(hlen:l.length<17592186044416):
 Calls Tryz.prog 110 #[.pointer (some ⟨wb,0,none⟩),.int .u64 v] w fun e w'=>e= .returned (.tuple #[])∧WrB w' wb (l++Wi.uvar v)∧WK wb w w':=by
 have HW:=hid hw
 clear hw
 have hvl:=Wi.uvar_length 9 v (by omega)
 have HV:=hid hv
 clear hv
 go_enter Tryz.func110,Tryz.ntmps110
 go_wp2_with fail
 go_loopg [1] v (fun g i wr=>∃ x,Wi.uvar v=x++Wi.uvar g∧i= .int .u64 g∧WrB wr wb (l++x)∧WK wb w wr∧g≤v)
 case atStart=>exact⟨[],rfl,rfl,by simpa using HW.out,WK.of_grown (Below.refl _ _) HW.out.lt,Nat.le_refl _⟩
 case round=>
  clear HW
  obtain⟨x,hx,rfl,hi1,hi2,hgv⟩:=hrel
  have hxl:x.length≤(Wi.uvar v).length:=by rw[hx];simp
  have HI:=hid (Qa hx (Qa hi1 hi2))
  clear hx hi1 hi2
  by_cases hlt:gk<128
  ·have hv:=Qc9 gk hlt
   go_wp2_with (
    (go_at_call 158
     rw[hv]
     refine (JO wb (l++x) [Wi.lo7 gk] (some ⟨wr.heap.size,0,none⟩) 1 _ (HI.out.2.1.grown (Qb wr _)) (Xt wr _) (by simp;omega)).mono ?_
     rintro e w1 ⟨rfl,h1,h2⟩
     have HN:=hid (Qa h1 h2)
     clear h1 h2))
   go_end0
   have:=HN.out.1
   rw[List.append_assoc,←Wi.uvar_low gk hlt,←HI.out.1] at this
   exact⟨rfl,this,HI.out.2.2.trans ((WK.of_grown (Qb wr _) HI.out.2.1.lt).trans HN.out.2)⟩
  ·have hv:=Qfg gk
   go_wp2_with (
    (go_at_call 158
     refine (JO wb (l++x) [Wi.hi7 gk] (some ⟨wr.heap.size,0,none⟩) 1 _ (HI.out.2.1.grown (Qb wr _)) (Xt wr _) (by simp;omega)).mono ?_
     rintro e w1 ⟨rfl,h1,h2⟩
     have HN:=hid (Qa h1 h2)
     clear h1 h2))
   go_roundg (gk / 128)
   case measure=>omega
   case rel=>
    refine⟨x++[Wi.hi7 gk],?_,by go_num,by rw[← List.append_assoc];exact HN.out.1,HI.out.2.2.trans ((WK.of_grown (Qb wr _) HI.out.2.1.lt).trans HN.out.2),by omega⟩
    rw[List.append_assoc,List.singleton_append,←Wi.uvar_high gk hlt];exact HI.out.1
theorem K7 (wb:Nat)(l p:List UInt8)(A:Option Addr)(c:Nat)(w:World)(hw:WrB w wb l)(hp:Rd w A (p.map b8))(hsep:p≠[]→∀ ad,A=some ad→¬WrS w wb ad.block)(hlen:l.length+p.length<4398046511104):
 Calls Tryz.prog 134 #[.pointer (some ⟨wb,0,none⟩),.slice A p.length c] w fun e w'=>e= .returned (.tuple #[])∧WrB w' wb (l++Wi.blob p)∧WK wb w w':=by
 have hul:=Wi.uvar_length 9 p.length (by omega)
 go_enter Tryz.func134,Tryz.ntmps134
 go_wp2_with (first
  |(go_at_call 110
    refine (K6 wb l p.length _ (by omega) hw (by omega)).mono ?_
    rintro e w1 ⟨rfl,h1,h2⟩
    have HN:=hid (Qa h1 h2)
    clear h1 h2)
  |(go_at_call 128
    refine (Vp wb (l++Wi.uvar p.length) p A c _ HN.out.1 (hp.kept HN.out.2.1 (fun ad h hn=>hsep (by simpa using hn) ad h)) (by simp;omega)).mono ?_
    rintro e w2 ⟨rfl,h1,h2⟩
    have HM:=hid (Qa h1 h2)
    clear h1 h2))
 go_end0
 refine⟨rfl,?_,HN.out.2.trans HM.out.2⟩
 have:=HM.out.1
 rwa [List.append_assoc] at this
theorem Kf (wb:Nat)(l:List UInt8)(w:World)(hw:WrB w wb l)(hlen:l.length<17592186044416):
 Calls Tryz.prog 112 #[.pointer (some ⟨wb,0,none⟩)] w fun e w'=>XN w 5 1 l.length (l.map b8) e w':=by
 obtain⟨v,hb,hown⟩:=hw
 have c0:w.cell? ⟨wb,0,none⟩=some v:=by rw[hb.cell];rfl
 obtain⟨A0,c0',rfl,hrd,hnc⟩:=QC hown
 have HB:=hid hrd
 clear hb hown hrd
 go_enter Tryz.func112,Tryz.ntmps112
 go_wp2_with (go_at_call 95;refine (KL A0 l.length c0' _ _ (by simp) HB.out (Qi l) (by omega)).mono ?_;rintro e w1 ⟨v,rfl,h1⟩;have HN:=hid h1;clear h1)
 go_ret
 exact⟨v,rfl,HN.out⟩
theorem Kg (x:Int)(w:World)(h1:1≤x)(h2:x≤32):Calls Tryz.prog 171 #[.int .i64 x] w fun e w'=>e= .returned (.bool true)∧w=w':=by
 go_enter Tryz.func171,Tryz.ntmps171
 go_wp2
 go_ret
 exact⟨by simp[h2],rfl⟩
theorem Qam (n:Nat)(d:List UInt8)(hn:n≤32)(hd:d.length=32)(w:World):
 Calls Tryz.prog 172 #[.int .i64 n,dg d] w fun e w'=>e= .returned (dg (Dg.cut n d))∧Below w.heap.size w w':=by
 have s1:=QH (P:=Tryz.prog) Tryz.underlying40 (by kernel_rfl) w.heap.size 0 n hn
 have s2:=QH (P:=Tryz.prog) Tryz.underlying40 (by kernel_rfl) (w.heap.size+1+1) 0 n hn
 go_enter Tryz.func172,Tryz.ntmps172
 go_upto_region 2 with (fail)
 have hb:Blk (((w.alloc (.cells (d.map b8).toArray 40)).alloc (.cells (List.replicate 32 (b8 0)).toArray 40)).alloc (.cells (List.replicate 32 (b8 0)).toArray 40)) w.heap.size 40 (d.map b8):=((Blk.new w _ _).alloc _).alloc _
 have hr:Blk (((w.alloc (.cells (d.map b8).toArray 40)).alloc (.cells (List.replicate 32 (b8 0)).toArray 40)).alloc (.cells (List.replicate 32 (b8 0)).toArray 40)) (w.heap.size+1) 40 (List.replicate 32 (b8 0)):=ZH w _ _ _ _
 have hc:Blk (((w.alloc (.cells (d.map b8).toArray 40)).alloc (.cells (List.replicate 32 (b8 0)).toArray 40)).alloc (.cells (List.replicate 32 (b8 0)).toArray 40)) (w.heap.size+1+1) 40 (List.replicate 32 (b8 0)):=by
  have:=Blk.new ((w.alloc (.cells (d.map b8).toArray 40)).alloc (.cells (List.replicate 32 (b8 0)).toArray 40)) 40 (List.replicate 32 (b8 0))
  simpa using this
 have hbl:Below w.heap.size w (((w.alloc (.cells (d.map b8).toArray 40)).alloc (.cells (List.replicate 32 (b8 0)).toArray 40)).alloc (.cells (List.replicate 32 (b8 0)).toArray 40)):=(((Below.refl _ _).alloc (Nat.le_refl _) _).alloc (by simp) _).alloc (by simp;omega) _
 refine Qe (fun w'=>Blk w' w.heap.size 40 (d.map b8)∧Blk w' (w.heap.size+1) 40 (List.replicate 32 (b8 0))∧Blk w' (w.heap.size+1+1) 40 (List.replicate 32 (b8 0))∧Below w.heap.size w w') ⟨hb,hr,hc,hbl⟩ ?_
 clear hb hr hc hbl
 rintro w1 hh
 have H:=hid hh
 clear hh
 refine QW 4 (by kernel_rfl) (by kernel_rfl) ?_
 dsimp only[List.take_succ_cons,List.take_zero,List.drop_succ_cons,List.drop_zero]
 repeat go_big_quiet_step (fail)
 refine wpQuiet_nil ?_
 rintro _ ⟨nq,rfl⟩
 refine Zc ?_ (.tmp 7) (.tmp 9) 34 34 ?_ _ Tryz.underlying34 ?_ (some ⟨w.heap.size+1+1,0,none⟩) (some ⟨w.heap.size,0,none⟩) n 32 n 32 ?_ ?_ (w.heap.size+1+1) 0 _ _ (H.out.2.2.1.drewN nq) ((d.take n).map b8) ?_ ?_ ?_ ?_ (Qi _) ?_
 ·rfl
 ·rfl
 ·kernel_rfl
 ·rfl
 ·rfl
 ·simp[hd];omega
 ·intro _;rfl
 ·rw[List.map_take];exact ((Rd.of _ H.out.1.whole).take n).drewN nq
 ·simp;omega
 intro w2 hb2 hk2
 have e2:splice (List.replicate 32 (b8 0)) 0 ((d.take n).map b8)=(Dg.cut n d).map b8:=by
  unfold splice Dg.cut
  rw[List.take_zero,List.nil_append,List.map_append,List.map_replicate,List.drop_replicate,List.length_map,List.length_take,hd,Nat.min_eq_left hn,Nat.zero_add]
 rw[e2] at hb2
 have hl2:((Dg.cut n d).map b8).length=32:=by rw[List.length_map];exact Dg.cut_length n d hn hd
 have hr2:Blk w2 (w.heap.size+1) 40 (List.replicate 32 (b8 0)):=hk2.blk (H.out.2.1.drewN nq) (by show ¬_=_;omega)
 have hw2:Below w.heap.size w w2:=hk2.step (Q5 H.out.2.2.2 nq) (Q5 H.out.2.2.2 nq).size (fun k hk=>by show ¬_=_;omega)
 have ht2:=hr2.there 0 32 (by simp)
 have HL:=hid (Qa hl2 (Qa hb2.whole (Qa hw2 ht2)))
 clear hl2 hr2 hw2 ht2 hb2 hk2
 go_wp2_with (first
  |((with_reducible refine Qf 40 (.tmp 5) (w.heap.size+1+1) 0 _ 32 _ HL.out.1 HL.out.2.1 Tryz.underlying40 rfl (by kernel_rfl) ?_ ?_ ?_ ?_);rfl;rfl;rfl)
  |((with_reducible refine Qv 40 (.tmp 4) (.tmp 11) (w.heap.size+1) 0 _ 32 HL.out.1 HL.out.2.2.2 (by kernel_rfl) (Qi _) ?_ ?_ ?_ ?_ ?_);rfl;rfl;rfl;rfl))
 exact QD (w.heap.size+1) 0 _ 32 _ HL.out.1 (World.rangeAt_setCells_same _ _ _ _ (by rw[HL.out.1];exact HL.out.2.2.2)) Tryz.underlying40 rfl (by kernel_rfl) rfl rfl rfl ⟨rfl,Qc _ (by omega) _ _ _ HL.out.2.2.1⟩
def ZA (w:World)(v:Value)(p:List UInt8):Prop:=∃ A c,v= .slice A p.length c∧Rd w A (p.map b8)∧p.length≤c
theorem ZA.grown {w w':World}{v:Value}{p:List UInt8}(h:ZA w v p)(hb:Below w.heap.size w w'):ZA w' v p:=by
 obtain⟨A,c,e,h1,h2⟩:=h;exact⟨A,c,e,h1.grown hb,h2⟩
structure JH (w:World) (vs:List Value) (ps:List (List UInt8)):Prop where
 len:vs.length=ps.length
 at_:∀ (i:Nat) (v:Value) (p:List UInt8),vs[i]?=some v→ps[i]?=some p→ZA w v p
theorem JH.nil (w:World):JH w [] []:=⟨rfl,fun i v p h=>by simp at h⟩
theorem JH.one {w:World}{v:Value}{p:List UInt8}(h:ZA w v p):JH w [v] [p]:=⟨rfl,fun i v' p' h1 h2=>by
 rcases i with _|i
 ·simp at h1 h2;subst h1;subst h2;exact h
 ·simp at h1⟩
theorem Rd.lt {w:World}{A:Option Addr}{cs:List Value}(h:Rd w A cs)(hn:cs≠[]):∀ ad,A=some ad→ad.block<w.heap.size:=by
 intro ad e
 obtain⟨g,o,e2,hr⟩:=h hn
 rw[e] at e2;cases e2
 exact Qo hr (List.length_pos_iff.2 hn)
theorem Z5 (n:Nat)(d:List UInt8)(h1:1≤n)(h2:n≤32)(hd:d.length=32)(w:World):
 Calls Tryz.prog 119 #[.int .i64 n,dg d] w fun e w'=>e= .returned (.bool (Dg.form n d))∧Below w.heap.size w w':=by
 have hcl:=Dg.cut_length n d h2 hd
 have heq:=JA (P:=Tryz.prog) Tryz.underlying40 Tryz.underlying5 (by kernel_rfl) (Dg.cut n d) d hcl hd
 have hb:Blk (w.alloc (.cells (d.map b8).toArray 40)) w.heap.size 40 (d.map b8):=Blk.new w _ _
 have hbl:Below w.heap.size w (w.alloc (.cells (d.map b8).toArray 40)):=(Below.refl _ _).alloc (Nat.le_refl _) _
 have hl:(d.map b8).length=32:=by simp[hd]
 go_enter Tryz.func119,Tryz.ntmps119
 go_upto_region 1 with (fail)
 refine Qe (fun w'=>Blk w' w.heap.size 40 (d.map b8)∧Below w.heap.size w w') ⟨hb,hbl⟩ ?_
 clear hb hbl
 rintro w1 ⟨hb,hbl⟩
 have H:=hid (Qa hb hbl)
 clear hb hbl
 refine Qr (by kernel_rfl) (by kernel_rfl) ?_
 repeat (first
  |(go_big_quiet_want;(with_reducible refine QG 40 (.tmp 3) w.heap.size 0 _ 32 _ hl (QA H.out.1.whole) Tryz.underlying40 rfl (by kernel_rfl) ?_ ?_ ?_);rfl;rfl;simp only[Act.put,List.setIfInBounds_toArray,List.set_cons_zero,List.set_cons_succ];go_big_quiet_on)
  |go_big_quiet_step (first
   |exact Calls.fut_same (Kg _ _ (by omega) (by omega))
   |exact Calls.fut_of (Qam n d h2 hd _)))
 refine wpQuiet_nil ?_
 rintro _ ⟨s,rfl⟩
 go_wp2_with fail
 go_ret
 exact⟨by simp[Dg.form],H.out.2.trans (s.below.mono H.out.2.size)⟩
theorem V3 (n:Nat)(h1:1≤n)(h2:n≤32)(A:Option Addr)(c:Nat)(vs:List Value)(ps:List (List UInt8))(w:World)(hA:Rd w A vs)(hr:JH w vs ps)(hw:Qs w)(hlen:ps.flatten.length<576460752303423488)(hvl:vs.length<1099511627776):
 Calls Tryz.prog 129 #[.int .i64 n,.slice A vs.length c] w fun e w'=>e= .returned (.tuple #[dg (Dg.sum n ps.flatten),.int .i64 0])∧Below w.heap.size w w':=by
 go_enter Tryz.func129,Tryz.ntmps129
 have HA:=hid (Qa hA (Qa hr (Qa hw hlen)))
 clear hA hr hw hlen
 go_wp2_with (first
  |(go_at_call 171;refine (Kg _ _ (by omega) (by omega)).mono ?_;rintro e w1 ⟨rfl,rfl⟩)
  |(go_at_call 178;refine (Qfc _).mono ?_;rintro e w1 ⟨rfl,hb1,hn1⟩;have HN:=hid (Qa hb1 hn1);clear hb1 hn1))
 have hz:(w.alloc (.cells (List.replicate 32 (b8 0)).toArray 40)).heap.size=w.heap.size+1:=by simp
 refine Qe (fun w'=>KX w' (w.heap.size+1) ((ps.take 0).flatten)∧Blk w' w.heap.size 40 (List.replicate 32 (b8 0))∧Below w.heap.size w w') ⟨⟨_,_,_,by rw[← hz];exact HN.out.2,Sha.Took.start⟩,(Blk.new w _ (List.replicate 32 (b8 0))).grown HN.out.1,((Below.refl _ _).alloc (Nat.le_refl _) (.cells (List.replicate 32 (b8 0)).toArray 40)).trans (HN.out.1.mono (by simp))⟩ ?_
 clear HN hz w1
 rintro w1 hh
 have H:=hid hh
 clear hh
 go_loopg [16] vs.length (fun g i wr=>∃ j:Nat,j+g=vs.length∧i= .int .i64 j∧KX wr (w.heap.size+1) ((ps.take j).flatten)∧Blk wr w.heap.size 40 (List.replicate 32 (b8 0))∧Below w.heap.size w wr)
 case atStart=>exact⟨0,by omega,rfl,H.out.1,H.out.2.1,H.out.2.2⟩
 case round=>
  clear H
  obtain⟨j,hj,rfl,hi⟩:=hrel
  have HI:=hid hi
  clear hi
  by_cases hlt:j<vs.length
  ·obtain⟨g,o,rfl,hr⟩:=HA.out.1 (by intro e;subst e;simp at hlt)
   have hps:j<ps.length:=by have:=HA.out.2.1.len;omega
   obtain⟨A',c',hv,hrd,hc'⟩:=HA.out.2.1.at_ j vs[j] ps[j] (by simp[hlt]) (by simp[hps])
   have c1:wr.cell? ⟨g,o+j,none⟩=some (.slice A' ps[j].length c'):=by
    rw[HI.out.2.2.cell (p:=⟨g,o+j,none⟩) (Qo hr (by omega)),hr j vs[j] (by simp[hlt]),hv]
   have hfl:(ps.take (j+1)).flatten=(ps.take j).flatten++ps[j]:=by rw[List.take_succ_eq_append_getElem hps,List.flatten_append];simp
   have hlen:(ps.take (j+1)).flatten.length≤ps.flatten.length:=by
    conv=>rhs;rw[← List.take_append_drop (j+1) ps,List.flatten_append,List.length_append]
    omega
   rw[hfl,List.length_append] at hlen
   have HR:=hid (Qa hr (Qa hrd (Qa hfl (Qa hlen (Qa hps hc')))))
   clear hr hrd hfl hlen
   go_wp2_with (
    (go_at_call 179
     have hz0:0<w.heap.size:=Nat.lt_of_le_of_lt (Nat.zero_le _) HA.out.2.2.1.2
     have hsm:∀ ad,A'=some ad→ps[j].map b8≠[]→ad.block<w.heap.size:=fun ad e hn=>Rd.lt HR.out.2.1 hn ad e
     refine (YP (w.heap.size+1) ((ps.take j).flatten) ps[j] A' c' _ HI.out.1 (HA.out.2.2.1.below HI.out.2.2) (by have:=HA.out.2.2.1.2;omega) (HR.out.2.1.kept (S:=fun k=>w.heap.size≤k) (Qu.of_below HI.out.2.2 (fun k _ hk=>by omega)) (fun ad e hn=>by have:=hsm ad e hn;omega)) hc' (fun hn ad e=>by have:=hsm ad e (by simpa using hn);omega) (by have:=HR.out.2.2.2;have:=HA.out.2.2.2;omega)).mono ?_
     rintro e w3 ⟨rfl,hk3,hs3⟩
     have HW:=hid (Qa hk3 hs3)
     clear hk3 hs3))
   go_roundg (gk-1)
   case measure=>omega
   case rel=>
    refine⟨j+1,by omega,by go_num,?_,HW.out.1.blk HI.out.2.1 (by show ¬_=_;omega),HW.out.1.step HI.out.2.2 HI.out.2.2.size (fun k hk=>by show ¬_=_;omega)⟩
    rw[HR.out.2.2.1];exact HW.out.2.at_
  ·obtain rfl:j=vs.length:=by omega
   have hst:=HI.out.1
   rw[List.take_of_length_le (by rw[HA.out.2.1.len];exact Nat.le_refl _)] at hst
   have HS:=hid hst
   clear hst
   have hcl:=Dg.sum_length n ps.flatten h2
   have HC:=hid (show ((Dg.sum n ps.flatten).map b8).length=32 by simp[hcl])
   clear hcl
   have ht0:=HI.out.2.1.there 0 32 (by simp)
   go_wp2_with (first
    |(go_at_call 180;refine (Qff (w.heap.size+1) _ _ HS.out (HA.out.2.2.1.below HI.out.2.2) HA.out.2.2.2).mono ?_;rintro e w3 ⟨rfl,hk3⟩;have HW:=hid hk3;clear hk3)
    |(go_at_call 172;refine (Qam n (Sha.sum ps.flatten) h2 (Sha.sum_length _) _).mono ?_;rintro e w4 ⟨rfl,hk4⟩;have HV:=hid hk4;clear hk4
      have ht:w4.there w.heap.size 0 32:=((HI.out.2.1.grown HW.out).grown HV.out).there 0 32 (by simp))
    |((with_reducible refine Qv 40 (.tmp 4) (.tmp 27) w.heap.size 0 _ 32 HC.out ht (by kernel_rfl) (Qi _) ?_ ?_ ?_ ?_ ?_);rfl;rfl;rfl;rfl))
   refine Q9 w.heap.size 0 _ 32 _ HC.out (World.rangeAt_setCells_same _ _ _ _ (by rw[HC.out];exact ht)) Tryz.underlying40 rfl (by kernel_rfl) rfl rfl rfl ⟨rfl,Qc _ (Nat.le_refl _) _ _ _ (HI.out.2.2.trans ((HW.out.mono HI.out.2.2.size).trans (HV.out.mono (Nat.le_trans HI.out.2.2.size HW.out.size))))⟩
theorem JQ {α:Type}(s:Nat):∀ (L:List (List α)) (k:Nat),(∀ x∈L,x.length=s)→(hk:k<L.length)→∀ (j:Nat) (v:α),L[k][j]?=some v→L.flatten[k*s+j]?=some v
 |x :: L,0,h,_,j,v,hj=>by
  have hl:=(List.getElem?_eq_some_iff.1 hj).1
  simp only[List.getElem_cons_zero] at hj hl
  rw[List.flatten_cons,List.getElem?_append_left (by omega),Nat.zero_mul,Nat.zero_add,hj]
 |x :: L,k+1,h,hk,j,v,hj=>by
  have hx:=h x (by simp)
  rw[List.flatten_cons,List.getElem?_append_right (by rw[hx,Nat.add_mul];omega),show (k+1)*s+j-x.length=k*s+j from by rw[hx,Nat.add_mul];omega]
  exact JQ s L k (fun y hy=>h y (by simp[hy])) (by simpa using hk) j v (by simpa using hj)
theorem Qt {w:World}{g o s:Nat}{L:List (List Value)}(h:w.rangeAt g o L.flatten)(hs:∀ x∈L,x.length=s)(k:Nat)(hk:k<L.length):w.rangeAt g (o+k*s) L[k]:=fun j v hj=>by
 rw[Nat.add_assoc]
 exact h (k*s+j) v (JQ s L k hs hk j v hj)
theorem Qk {α:Type}(s:Nat):∀ (L:List (List α)),(∀ x∈L,x.length=s)→L.flatten.length=L.length*s
 |[],_=>by simp
 |x :: L,h=>by rw[List.flatten_cons,List.length_append,h x (by simp),Qk s L (fun y hy=>h y (by simp[hy])),List.length_cons,Nat.add_mul];omega
def dgs (ds:List (List UInt8)):List (List Value):=ds.map (·.map b8)
theorem Q3 {ds:List (List UInt8)}(h:∀ d∈ds,d.length=32):∀ x∈dgs ds,x.length=32:=by
 intro x hx
 obtain⟨d,hd,rfl⟩:=List.mem_map.1 hx
 simp[h d hd]
def XZ (n:Nat)(ds:List (List UInt8)):Prop:=∀ d∈ds,d.length=32∧Dg.form n d=true
theorem K8 (n:Nat)(h1:1≤n)(h2:n≤32)(A:Option Addr)(c:Nat)(ds:List (List UInt8))(w:World)(hf:XZ n ds)(hA:Rd w A (dgs ds).flatten)(hvl:ds.length<1099511627776):
 Calls Tryz.prog 125 #[.int .i64 n,.slice A ds.length c] w fun e w'=>e= .returned (.int .i64 0)∧Below w.heap.size w w':=by
 have HA:=hid (Qa hf hA)
 clear hf hA
 go_enter Tryz.func125,Tryz.ntmps125
 go_wp2_with (
  (go_at_call 171;refine (Kg _ _ (by omega) (by omega)).mono ?_;rintro e w1 ⟨rfl,rfl⟩))
 go_loopg [12] ds.length (fun g i wr=>∃ j:Nat,j+g=ds.length∧i= .int .i64 j∧Below w.heap.size w wr)
 case atStart=>exact⟨0,by omega,rfl,Below.refl _ _⟩
 case round=>
  obtain⟨j,hj,rfl,hi⟩:=hrel
  have HI:=hid hi
  clear hi
  by_cases hlt:j<ds.length
  ·have hl32:∀ x∈dgs ds,x.length=32:=Q3 fun d hd=>(HA.out.1 d hd).1
   have hjl:j< (dgs ds).length:=by simpa [dgs] using hlt
   obtain⟨g,o,rfl,hr⟩:=HA.out.2 (by
    intro e
    have:=Qk 32 _ hl32
    rw[e] at this
    simp at this;omega)
   have hp:=Qt hr hl32 j hjl
   have hlj:(dgs ds)[j].length=32:=hl32 _ (List.getElem_mem hjl)
   have hej:(dgs ds)[j]=ds[j].map b8:=by simp[dgs]
   rw[hej] at hp hlj
   have hlb:=Qo hp (by omega)
   have hp2:wr.rangeAt g (o+j*32) (ds[j].map b8):=Qh hp HI.out hlb
   have hb:Blk (wr.alloc (.cells (ds[j].map b8).toArray 40)) wr.heap.size 40 (ds[j].map b8):=Blk.new _ _ _
   have hrn:=hb.whole
   have hd:=HA.out.1 ds[j] (List.getElem_mem hlt)
   have HD:=hid hd
   clear hr hp hej hl32 hd
   have HL:=hid hlj
   clear hlj
   go_wp2_with (first
    |((with_reducible refine Qf 40 (.tmp 14) g (o+j*32) _ 32 _ HL.out hp2 Tryz.underlying40 rfl (by kernel_rfl) ?_ ?_ ?_ ?_);rfl;rfl;rfl)
    |((with_reducible refine Qw 40 (.tmp 6) (.tmp 15) _ _ (ds[j].map b8) 32 HL.out ?_ (by kernel_rfl) (Qi _) ?_ ?_ ?_ ?_ ?_);rfl;rfl;rfl;rfl;rfl)
    |((with_reducible refine Qf 40 (.tmp 6) wr.heap.size 0 _ 32 _ HL.out hrn Tryz.underlying40 rfl (by kernel_rfl) ?_ ?_ ?_ ?_);rfl;rfl;rfl)
    |(go_at_call 119;refine (Z5 n ds[j] h1 h2 HD.out.1 _).mono ?_;rw[HD.out.2];rintro e w3 ⟨rfl,hk3⟩;have HW:=hid hk3;clear hk3))
   go_roundg (gk-1)
   case measure=>omega
   case rel=>exact⟨j+1,by omega,by go_num,(HI.out.alloc HI.out.size _).trans (HW.out.mono (by simp;have:=HI.out.size;omega))⟩
  ·go_wp2_with fail
   go_ret
   exact⟨rfl,HI.out⟩
theorem Kh {w w':World}{p:List UInt8}{e:Ending}(h:XN w 5 1 p.length (p.map b8) e w'):∃ A c,e= .returned (.slice A p.length c)∧Below w.heap.size w w'∧Rd w' A (p.map b8)∧p.length≤c:=by
 obtain⟨v,rfl,hb,hown,_⟩:=h
 obtain⟨A,c,rfl,hr,hc⟩:=QC hown
 exact⟨A,c,rfl,hb,hr,hc⟩
structure Res (w w1:World):Prop where
 size:w1.heap.size=w.heap.size+1
 blk:Blk w1 w.heap.size 40 (List.replicate 32 (b8 0))
 bl:Below w.heap.size w w1
theorem Res.new (w:World):Res w (w.alloc (.cells (List.replicate 32 (b8 0)).toArray 40)):=⟨by simp,Blk.new _ _ _,Qb _ _⟩
theorem Res.there {w w1 w2:World}(h:Res w w1)(hb:Below w1.heap.size w1 w2):w2.there w.heap.size 0 32:=(h.blk.grown hb).there 0 32 (by simp)
theorem Res.below {w w1 w2:World}(h:Res w w1)(hb:Below w1.heap.size w1 w2):Below w.heap.size w w2:=h.bl.trans (hb.mono h.bl.size)
theorem Res.words {w w1:World}(h:Res w w1)(hw:Qs w):Qs w1:=hw.below h.bl
theorem Zl {fn:Func}{R:Ending→World→Prop}{a:Act}{w w2:World}{d:List UInt8}{p u:Tmp}(hd:((d.map b8)).length=32)(ht:w2.there w.heap.size 0 32)(hb:Below w.heap.size w w2)
 (h:fn.results= #[.cell p 40,.tmp u]) (hp:a.tmps.getD p undef= .pointer (some ⟨w.heap.size,0,none⟩)) (hu:a.tmps.getD u undef= .int .i64 0) (hdf:a.defers=[])
 (hR:∀ w',Below w.heap.size w w'→R (.returned (.tuple #[dg d,.int .i64 0])) w'):bodyPost Tryz.prog fn R .ret a (w2.setCells w.heap.size 0 (d.map b8)):=
 Q9 w.heap.size 0 _ 32 _ hd (World.rangeAt_setCells_same _ _ _ _ (by rw[hd];exact ht)) Tryz.underlying40 rfl (by kernel_rfl) h hp hdf (by rw[hu];exact hR _ (Qc _ (Nat.le_refl _) _ _ _ hb))
theorem Vq (w:World)(v:Value)(t:TypeId):Rd (w.alloc (.cells #[v] t)) (some ⟨w.heap.size,0,none⟩) [v]:=Rd.of _ (Blk.new w t [v]).whole
theorem Z6 (n:Nat)(h1:1≤n)(h2:n≤32)(v:Value)(p:List UInt8)(w:World)(hv:ZA w v p)(hw:Qs w)(hlen:p.length<576460752303423488):
 Calls Tryz.prog 129 #[.int .i64 n,.slice (some ⟨w.heap.size,0,none⟩) 1 1] (w.alloc (.cells #[v] 34)) fun e w'=>e= .returned (.tuple #[dg (Dg.sum n p),.int .i64 0])∧Below w.heap.size w w':=by
 have hb:=Qb w (.cells #[v] 34)
 refine (V3 n h1 h2 _ 1 [v] [p] _ (Vq w v _) (JH.one (hv.grown hb)) (hw.below hb) (by simpa using hlen) (by simp)).mono ?_
 rintro e w' ⟨rfl,h⟩
 exact⟨by simp,hb.trans (h.mono hb.size)⟩
theorem Qbf (n:Nat)(h1:1≤n)(h2:n≤32)(w:World)(hw:Qs w):
 Calls Tryz.prog 181 #[.int .i64 n] w fun e w'=>e= .returned (.tuple #[dg (Dg.noLog n),.int .i64 0])∧Below w.heap.size w w':=by
 have hcl:=Dg.sum_length n [] h2
 have HC:=hid (show ((Dg.noLog n).map b8).length=32 by unfold Dg.noLog;simp[hcl])
 clear hcl
 go_enter Tryz.func181,Tryz.ntmps181
 go_upto_region 1 with fail
 refine Qe (Res w) (Res.new w) ?_
 rintro w1 hr
 have HR:=hid hr
 clear hr
 go_wp2_with (first
  |(go_at_call 129;refine (V3 n h1 h2 none 0 [] [] _ (Rd.nil _ _) (JH.nil _) (HR.out.words hw) (by simp) (by simp)).mono ?_;rintro e w2 ⟨rfl,hb⟩
    have ht:=HR.out.there hb;have HB:=hid hb;clear hb)
  |((with_reducible refine Qv 40 (.tmp 2) (.tmp 6) w.heap.size 0 ((Dg.noLog n).map b8) 32 HC.out ht (by kernel_rfl) (Qi _) ?_ ?_ ?_ ?_ ?_);rfl;rfl;rfl;rfl))
 exact Zl HC.out ht (HR.out.below HB.out) rfl rfl rfl rfl (fun _ h=>⟨rfl,h⟩)
theorem Qbg (n:Nat)(h1:1≤n)(h2:n≤32)(w:World)(hw:Qs w):
 Calls Tryz.prog 157 #[.int .i64 n] w fun e w'=>e= .returned (.tuple #[dg (Dg.noMap n),.int .i64 0])∧Below w.heap.size w w':=by
 have hcl:=Dg.sum_length n [5] h2
 have HC:=hid (show ((Dg.noMap n).map b8).length=32 by unfold Dg.noMap;simp[hcl])
 clear hcl
 go_enter Tryz.func157,Tryz.ntmps157
 go_upto_region 1 with fail
 refine Qe (Res w) (Res.new w) ?_
 rintro w1 hr
 have HR:=hid hr
 clear hr
 go_wp2_with (first
  |(go_at_call 129
    have hz:(w1.alloc (.cells #[b8 5] 5)).heap.size=w1.heap.size+1:=by simp
    have hb1:=Qb w1 (.cells #[b8 5] 5)
    have:=Z6 n h1 h2 (.slice (some ⟨w1.heap.size,0,none⟩) 1 1) [5] (w1.alloc (.cells #[b8 5] 5)) ⟨_,_,rfl,Xt w1 5,by simp⟩ ((HR.out.words hw).below hb1) (by simp)
    rw[hz] at this
    refine this.mono ?_;rintro e w2 ⟨rfl,hb⟩
    have hb2:Below w1.heap.size w1 w2:=hb1.trans (hb.mono (by omega))
    have ht:=HR.out.there hb2;have HB:=hid hb2;clear hb hb1 hb2 this hz)
  |((with_reducible refine Qv 40 (.tmp 2) (.tmp 8) w.heap.size 0 ((Dg.noMap n).map b8) 32 HC.out ht (by kernel_rfl) (Qi _) ?_ ?_ ?_ ?_ ?_);rfl;rfl;rfl;rfl))
 exact Zl HC.out ht (HR.out.below HB.out) rfl rfl rfl rfl (fun _ h=>⟨rfl,h⟩)
theorem Qda (n:Nat)(h1:1≤n)(h2:n≤32)(v:Value)(p:List UInt8)(w:World)(hv:ZA w v p)(hw:Qs w)(hlen:p.length<576460752303423488):
 Calls Tryz.prog 80 #[.int .i64 n,v,.int .i64 0] w fun e w'=>e= .returned (.tuple #[dg (Dg.sum n p),.int .i64 0])∧Below w.heap.size w w':=by
 have hcl:=Dg.sum_length n p h2
 have HC:=hid (show ((Dg.sum n p).map b8).length=32 by simp[hcl])
 clear hcl
 obtain⟨A,c,rfl,hv1,hv2⟩:=hv
 have hv:ZA w (.slice A p.length c) p:=⟨A,c,rfl,hv1,hv2⟩
 go_enter Tryz.func80,Tryz.ntmps80
 go_upto_region 1 with fail
 refine Qe (Res w) (Res.new w) ?_
 rintro w1 hr
 have HR:=hid hr
 clear hr
 go_wp2_with (first
  |(go_at_call 129
    refine (Z6 n h1 h2 _ p w1 (hv.grown HR.out.bl) (HR.out.words hw) hlen).mono ?_
    rintro e w2 ⟨rfl,hb⟩
    have ht:=HR.out.there hb;have HB:=hid hb;clear hb)
  |((with_reducible refine Qv 40 (.tmp 6) (.tmp 16) w.heap.size 0 ((Dg.sum n p).map b8) 32 HC.out ht (by kernel_rfl) (Qi _) ?_ ?_ ?_ ?_ ?_);rfl;rfl;rfl;rfl))
 exact Zl HC.out ht (HR.out.below HB.out) rfl rfl rfl rfl (fun _ h=>⟨rfl,h⟩)
structure Wr (B g:Nat) (w0 w:World) (l:List UInt8):Prop where
 wr:WrB w g l
 bl:Below B w0 w
 far:∀ k,k<w.heap.size→WrS w g k→B≤k
theorem Wr.new (w:World):Wr w.heap.size w.heap.size w (w.alloc (.cells #[.slice none 0 0] 184)) []:=by
 refine⟨WrB.new w,Qb _ _,fun k hk hs=>?_⟩
 rcases hs with rfl|⟨v,h1,h2⟩
 ·exact Nat.le_refl _
 ·have hb:=Blk.new w 184 [.slice none 0 0]
  unfold Blk at h1 hb
  rw[hb] at h1;cases h1;cases h2
theorem Wr.step {B g:Nat}{w0 w w':World}{l l':List UInt8}(h:Wr B g w0 w l)(hw:WrB w' g l')(hk:WK g w w'):Wr B g w0 w' l':=
 ⟨hw,⟨hk.1.os.trans h.bl.os,hk.1.tape.trans h.bl.tape,hk.1.output.trans h.bl.output,Nat.le_trans h.bl.size hk.1.size,fun k hkB=>by
   rcases Nat.lt_or_ge k w.heap.size with hlt|hge
   ·exact (hk.1.block k hlt (fun hs=>by have:=h.far k hlt hs;omega)).trans (h.bl.block k hkB)
   ·have:=h.wr.lt
    have:=h.far g this (.inl rfl)
    omega⟩,fun k hkl hs=>by
   rcases Nat.lt_or_ge k w.heap.size with hlt|hge
   ·exact h.far k hlt (hk.2 k hlt hs)
   ·have:=h.wr.lt
    have:=h.far g this (.inl rfl)
    omega⟩
theorem K9 (t:UInt8)(p:List UInt8)(A:Option Addr)(c:Nat)(w:World)(hp:Rd w A (p.map b8))(hlen:p.length<1099511627776):
 Calls Tryz.prog 190 #[b8 t,.slice A p.length c] w fun e w'=>XN w 5 1 (t :: p).length ((t :: p).map b8) e w':=by
 go_enter Tryz.func190,Tryz.ntmps190
 go_upto_region 2 with fail
 refine Qe (fun w'=>Wr w.heap.size w.heap.size w w' []) (Wr.new w) ?_
 rintro w1 hr
 have HR:=hid hr
 clear hr
 go_wp2_with (first
  |(go_at_call 126
    refine (We w.heap.size [] t _ HR.out.wr (by simp)).mono ?_
    rintro e w2 ⟨rfl,h1,h2⟩
    have HS:=hid (HR.out.step h1 h2)
    clear h1 h2)
  |(go_at_call 128
    refine (Vp w.heap.size ([]++[t]) p A c _ HS.out.wr (hp.grown HS.out.bl) (by simp;omega)).mono ?_
    rintro e w3 ⟨rfl,h1,h2⟩
    have HT:=hid (HS.out.step h1 h2)
    clear h1 h2)
  |(go_at_call 112
    refine (Kf w.heap.size ([]++[t]++p) _ HT.out.wr (by simp;omega)).mono ?_
    rintro e w4 h1
    have HU:=hid h1
    clear h1
    obtain⟨v,rfl,-⟩:=HU.out))
 go_ret
 obtain⟨v',hv,h1,h2,h3⟩:=HU.out
 cases hv
 exact⟨v,rfl,HT.out.bl.trans (h1.mono HT.out.bl.size),Xi h2 (fun k hk=>Nat.le_trans HT.out.bl.size (h2.lt k hk).1),h3⟩
end Go.Proofs.YtpnakfeafekneaaGreatDoor
