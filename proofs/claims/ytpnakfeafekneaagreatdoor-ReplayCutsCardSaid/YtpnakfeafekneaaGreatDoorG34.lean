/- Part 34 of this proof. -/
import Derived.Lib.SlBytesConst
import Derived.Test.YtpnakfeafekneaaGreatDoorG33
set_option linter.unusedSimpArgs false
set_option linter.unusedVariables false
set_option maxHeartbeats 8000000
set_option maxRecDepth 100000
namespace Go.Proofs.YtpnakfeafekneaaGreatDoor
open Go.RowKit
def aw1:Ent:=⟨1,[107],[118]⟩
def aw2:Ent:=⟨2,[],[]⟩
def AwW (w w':World):Prop:=Blk w' (w.heap.size+1+1) 36 [b8 1,.slice (some ⟨w.heap.size,0,none⟩) 1 1,.slice (some ⟨w.heap.size+1,0,none⟩) 1 1,b8 2,.slice none 0 0,.slice none 0 0]∧Rd w' (some ⟨w.heap.size,0,none⟩) ([107].map b8)∧Rd w' (some ⟨w.heap.size+1,0,none⟩) ([118].map b8)∧Below w.heap.size w w'
theorem Vg (w:World)(x:UInt8):Rd (w.alloc (.cells #[b8 x] 5 (1,2))) (some ⟨w.heap.size,0,none⟩) ([x].map b8):=Rd.of _ (fun j v hj=>by
 have h0:j=0:=by have:=(List.getElem?_eq_some_iff.1 hj).1;simp at this;omega
 subst h0
 simp at hj;subst hj
 have:=heap_alloc_new w (.cells #[b8 x] 5 (1,2))
 unfold World.cell?
 rw[this];rfl)
theorem Qef (w:World):AwW w (((w.alloc (.cells #[.int .u8 107] 5 (1,2))).alloc (.cells #[.int .u8 118] 5 (1,2))).alloc (.cells #[.int .u8 1,.slice (some ⟨w.heap.size,0,none⟩) 1 1,.slice (some ⟨w.heap.size+1,0,none⟩) 1 1,.int .u8 2,.slice none 0 0,.slice none 0 0] 36)):=by
 have z1:(w.alloc (.cells #[.int .u8 107] 5 (1,2))).heap.size=w.heap.size+1:=by simp
 have z2:((w.alloc (.cells #[.int .u8 107] 5 (1,2))).alloc (.cells #[.int .u8 118] 5 (1,2))).heap.size=w.heap.size+1+1:=by simp
 have b1:=Qb w (.cells #[.int .u8 107] 5 (1,2))
 have b2:=Qb (w.alloc (.cells #[.int .u8 107] 5 (1,2))) (.cells #[.int .u8 118] 5 (1,2))
 have b3:=Qb ((w.alloc (.cells #[.int .u8 107] 5 (1,2))).alloc (.cells #[.int .u8 118] 5 (1,2))) (.cells #[.int .u8 1,.slice (some ⟨w.heap.size,0,none⟩) 1 1,.slice (some ⟨w.heap.size+1,0,none⟩) 1 1,.int .u8 2,.slice none 0 0,.slice none 0 0] 36)
 have r1:Rd (w.alloc (.cells #[.int .u8 107] 5 (1,2))) (some ⟨w.heap.size,0,none⟩) ([107].map b8):=Vg w 107
 have r2:Rd ((w.alloc (.cells #[.int .u8 107] 5 (1,2))).alloc (.cells #[.int .u8 118] 5 (1,2))) (some ⟨w.heap.size+1,0,none⟩) ([118].map b8):=by rw[← z1];exact Vg _ 118
 refine⟨?_,(r1.grown b2).grown b3,r2.grown b3,gro (gro b1 b2) b3⟩
 rw[← z2]
 exact Blk.new _ _ [b8 1,.slice (some ⟨w.heap.size,0,none⟩) 1 1,.slice (some ⟨w.heap.size+1,0,none⟩) 1 1,b8 2,.slice none 0 0,.slice none 0 0]
theorem Qa0 {w1:World}{B K V:Nat}(hk:Rd w1 (some ⟨K,0,none⟩) ([107].map b8))(hv:Rd w1 (some ⟨V,0,none⟩) ([118].map b8)):Xu w1 [b8 1,.slice (some ⟨K,0,none⟩) 1 1,.slice (some ⟨V,0,none⟩) 1 1] aw1∧Xu w1 [b8 2,.slice none 0 0,.slice none 0 0] aw2:=
 ⟨⟨_,_,_,_,rfl,hk,hv,Nat.le_refl _,Nat.le_refl _⟩,⟨_,_,_,_,rfl,Rd.nil _ _,Rd.nil _ _,Nat.le_refl _,Nat.le_refl _⟩⟩
theorem Yx {w:World}{x:List Value}{e:Ent}(h:Xu w x e):QK w [x] [e]:=by
 refine⟨rfl,fun i y q h1 h3=>?_⟩
 have hi:i=0:=by have:=(List.getElem?_eq_some_iff.1 h1).1;simp at this;omega
 subst hi
 simp at h1 h3;subst h1;subst h3;exact h
theorem UP {w:World}{x y:List Value}{e f:Ent}(h:Xu w x e)(h':Xu w y f):QK w [x,y] [e,f]:=by
 refine⟨rfl,fun i z q h1 h3=>?_⟩
 have hi:i=0∨i=1:=by have:=(List.getElem?_eq_some_iff.1 h1).1;simp at this;omega
 rcases hi with rfl|rfl
 ·simp at h1 h3;subst h1;subst h3;exact h
 ·simp at h1 h3;subst h1;subst h3;exact h'
theorem Qeg (w1:World)(B K V:Nat)(hl:Blk w1 B 36 [b8 1,.slice (some ⟨K,0,none⟩) 1 1,.slice (some ⟨V,0,none⟩) 1 1,b8 2,.slice none 0 0,.slice none 0 0])(hk:Rd w1 (some ⟨K,0,none⟩) ([107].map b8))(hv:Rd w1 (some ⟨V,0,none⟩) ([118].map b8))(hw:Qs w1):
 ∀ w',Below (w1.alloc (.cells #[.int .u64 0,.slice (some ⟨B,0,none⟩) 1 2,.int .u64 1,.slice (some ⟨B,3,none⟩) 1 1] 47)).heap.size (w1.alloc (.cells #[.int .u64 0,.slice (some ⟨B,0,none⟩) 1 2,.int .u64 1,.slice (some ⟨B,3,none⟩) 1 1] 47)) w'→
   Calls Tryz.prog 19 #[.int .i64 4,.slice (some ⟨w1.heap.size,0,none⟩) 2 2] w' fun e w''=>∃ b S,e= .returned (.tuple #[ptr b,.int .i64 0])∧Below w'.heap.size w' w''∧QJ S w'' 4 b [aw1,aw2] (Rbs 4 [[aw1],[aw2]] 2):=fun w' hb=>by
 have hb0:=Qb w1 (.cells #[.int .u64 0,.slice (some ⟨B,0,none⟩) 1 2,.int .u64 1,.slice (some ⟨B,3,none⟩) 1 1] 47)
 have hbw:=gro hb0 hb
 have hr:=((Blk.new w1 47 [.int .u64 0,.slice (some ⟨B,0,none⟩) 1 2,.int .u64 1,.slice (some ⟨B,3,none⟩) 1 1]).grown hb).whole
 obtain⟨e1,e2⟩:=Qa0 (B:=B) (hk.grown hbw) (hv.grown hbw)
 have hw2:=(hl.grown hbw).whole
 have hX:XA w' [[.int .u64 0,.slice (some ⟨B,0,none⟩) 1 2],[.int .u64 1,.slice (some ⟨B,3,none⟩) 1 1]] [0,1] [[aw1],[aw2]]:=by
  refine⟨rfl,rfl,fun i x F b h1 h2 h3=>?_⟩
  have hi:i=0∨i=1:=by have:=(List.getElem?_eq_some_iff.1 h1).1;simp at this;omega
  rcases hi with rfl|rfl
  ·simp at h1 h2 h3;subst h1;subst h2;subst h3
   exact⟨_,_,[[b8 1,.slice (some ⟨K,0,none⟩) 1 1,.slice (some ⟨V,0,none⟩) 1 1]],rfl,Rd.of _ (Q8 (X:=[b8 1,.slice (some ⟨K,0,none⟩) 1 1,.slice (some ⟨V,0,none⟩) 1 1]) hw2).1,Yx e1⟩
  ·simp at h1 h2 h3;subst h1;subst h2;subst h3
   exact⟨_,_,[[b8 2,.slice none 0 0,.slice none 0 0]],rfl,Rd.of _ (Q8 (X:=[b8 1,.slice (some ⟨K,0,none⟩) 1 1,.slice (some ⟨V,0,none⟩) 1 1]) hw2).2,Yx e2⟩
 have:=UO 4 (by decide) (by decide) [[aw1],[aw2]] [0,1] (some ⟨w1.heap.size,0,none⟩) 2 2 [[.int .u64 0,.slice (some ⟨B,0,none⟩) 1 2],[.int .u64 1,.slice (some ⟨B,3,none⟩) 1 1]] w' (hw.below hbw) rfl (Rd.of _ hr) hX
  (fun i hi=>by
    have:i=0∨i=1:=by simp at hi;omega
    rcases this with rfl|rfl<;>rfl)
  (fun i hi=>by
    have:i=0∨i=1:=by simp at hi;omega
    rcases this with rfl|rfl
    ·exact En.one_ok 0 (by decide) aw1 (by decide)
    ·exact En.one_ok 1 (by decide) aw2 (by decide)) (by decide) (by decide) (Lo.zero _)
 exact this
theorem Qeh (w1:World)(B K V:Nat)(hl:Blk w1 B 36 [b8 1,.slice (some ⟨K,0,none⟩) 1 1,.slice (some ⟨V,0,none⟩) 1 1,b8 2,.slice none 0 0,.slice none 0 0])(hk:Rd w1 (some ⟨K,0,none⟩) ([107].map b8))(hv:Rd w1 (some ⟨V,0,none⟩) ([118].map b8))(hw:Qs w1):
 ∀ w',Below w1.heap.size w1 w'→Rd w' (some ⟨B,0,none⟩) ([[b8 1,.slice (some ⟨K,0,none⟩) 1 1,.slice (some ⟨V,0,none⟩) 1 1],[b8 2,.slice none 0 0,.slice none 0 0]]:List (List Value)).flatten∧QK w' [[b8 1,.slice (some ⟨K,0,none⟩) 1 1,.slice (some ⟨V,0,none⟩) 1 1],[b8 2,.slice none 0 0,.slice none 0 0]] [aw1,aw2]∧
   Calls Tryz.prog 9 #[.int .i64 4,.slice (some ⟨B,0,none⟩) 2 2] w' fun e w''=>Below w'.heap.size w' w''∧∃ Ar cr,e= .returned (.tuple #[.slice Ar 3 cr,.int .i64 0])∧Rd w'' Ar (QI (Rl 4 [aw1,aw2] 2)).flatten:=fun w' hb=>by
 obtain⟨e1,e2⟩:=Qa0 (B:=B) (hk.grown hb) (hv.grown hb)
 have hr:Rd w' (some ⟨B,0,none⟩) ([[b8 1,.slice (some ⟨K,0,none⟩) 1 1,.slice (some ⟨V,0,none⟩) 1 1],[b8 2,.slice none 0 0,.slice none 0 0]]:List (List Value)).flatten:=Rd.of _ (hl.grown hb).whole
 refine⟨hr,UP e1 e2,?_⟩
 refine (Qb5 4 (by decide) (by decide) [aw1,aw2] (some ⟨B,0,none⟩) 2 _ w' (hw.below hb) hr (UP e1 e2) (by decide)).mono ?_
 rintro e w'' ⟨h1,h|h⟩
 ·exact absurd (show En.all [aw1,aw2]=0 by decide) h.1
 ·exact⟨h1,h.2⟩
theorem Qgp:∀ r∈Rl 4 [aw1,aw2] 2,Je r:=by
 intro r hr
 unfold Rl at hr
 obtain⟨i,-,rfl⟩:=List.mem_map.1 hr
 exact Sn.root_ok2 4 (by decide) _ (by simp;omega)
theorem KD (w:World)(hw:Qs w):Calls Tryz.prog 8 #[] w fun e w'=>e= .returned (.bool true)∧Below w.heap.size w w':=by
 have kc:=fun (w:World) (C:Array Value) (n c:Nat)=>Lib.run_convert_bytes_const (P:=Tryz.prog) w 34 5 C n c Tryz.underlying34 Tryz.underlying5
 have kc2:(convert 34 34 (.slice (some ⟨w.heap.size+1,0,none⟩) 1 1)).run Tryz.prog ((w.alloc (.cells #[.int .u8 107] 5 (1,2))).alloc (.cells #[.int .u8 118] 5))= .ok (.slice (some ⟨w.heap.size+1,0,none⟩) 1 1) ((w.alloc (.cells #[.int .u8 107] 5 (1,2))).alloc (.cells #[.int .u8 118] 5 (1,2))):=by
  have:=kc (w.alloc (.cells #[.int .u8 107] 5 (1,2))) #[.int .u8 118] 1 1
  rw[show (w.alloc (.cells #[.int .u8 107] 5 (1,2))).heap.size=w.heap.size+1 from by simp] at this
  exact this
 go_enter Tryz.func8,Tryz.ntmps8
 go_upto_region 2 with fail
 obtain⟨K,hK⟩:∃ K,K=w.heap.size:=⟨_,rfl⟩
 have hw1:=Qef w
 refine Qe (fun w'=>AwW w w') hw1 ?_
 clear hw1 kc kc2
 rintro w1 ⟨hl,hk,hv,hbl⟩
 have hbs:=Qeg w1 (w.heap.size+1+1) w.heap.size (w.heap.size+1) hl hk hv (hw.below hbl)
 have hbs1:=Qeh w1 (w.heap.size+1+1) w.heap.size (w.heap.size+1) hl hk hv (hw.below hbl)
 have HT:=hid (Qa hbs (Qa hbs1 (Qa hl (Qa hk (Qa hv hbl)))))
 have s1:=Q7 (P:=Tryz.prog) Tryz.underlying22 (e:=36) (size:=3) (by kernel_rfl) (w.heap.size+1+1) 0 2 2 1 (by omega)
 have s2:=Qz (P:=Tryz.prog) Tryz.underlying22 (e:=36) (size:=3) (by kernel_rfl) (w.heap.size+1+1) 0 2 2 1 (by omega) (by omega)
 clear hbs hbs1 hl hk hv hbl hK
 go_region_held3 (fun _=>True) (exact True.intro)
  (first
    |(go_at_call 19
      with_reducible refine Calls.mono (HT.out.1 _ (Below.refl _ _)) ?_
      rintro ee w5 ⟨b5,S5,rfl,hb5,hs5⟩
      have H5:=hid (Qa (gro (Qb w1 (.cells #[.int .u64 0,.slice (some ⟨w.heap.size+1+1,0,none⟩) 1 2,.int .u64 1,.slice (some ⟨w.heap.size+1+1,3,none⟩) 1 1] 47)) hb5) hs5)
      clear hb5 hs5)
    |(go_at_call 19
      with_reducible refine Calls.mono (HT.out.1 _ (Below.refl _ _).drew) ?_
      rintro ee w5 ⟨b5,S5,rfl,hb5,hs5⟩
      have H5:=hid (Qa (gro (Qb w1 (.cells #[.int .u64 0,.slice (some ⟨w.heap.size+1+1,0,none⟩) 1 2,.int .u64 1,.slice (some ⟨w.heap.size+1+1,3,none⟩) 1 1] 47)) (show Below _ _ w5 from (Below.refl _ _).drew.trans (hb5.mono (Nat.le_refl _)))) hs5)
      clear hb5 hs5))
 all_goals
  have hr5:=HT.out.2.1 w5 H5.out.1
  have HR5:=hid hr5
  clear hr5
  go_upto_region 4 with (
   (go_at_call 9
    refine HR5.out.2.2.mono ?_
    rintro e w6 ⟨hb6,Ar,cr,rfl,hr6⟩
    have H6:=hid (Qa hb6 hr6)
    clear hb6 hr6))
  have hok:=Sn.root_ok2 4 (by decide) [aw1,aw2] (by decide)
  have hrl:=XG hok
  have heq:=VN _ hok
  obtain⟨g6,o6,rfl,hr6⟩:=H6.out.2 (by
   intro e
   have:=congrArg List.length e
   rw[Qk 65 _ (Xk Qgp)] at this
   simp[QI,Rl] at this)
  have hp6:w6.rangeAt g6 (o6+130) (Qd (Sn.root 4 [aw1,aw2])):=by
   have:=Qt hr6 (Xk Qgp) 2 (by simp[QI,Rl])
   simpa [QI,Rl] using this
  have hsr:∀ s:Fut w6,Calls Tryz.prog 29 #[ptr b5] s.v fun e w''=>e= .returned (.agg (Qd (Sn.root 4 [aw1,aw2])).toArray)∧∃ s':Fut w6,w''=s'.v:=fun s=>Calls.fut_of (XH s.v (H5.out.2.grown (gro H6.out.1 s.below)) (by rw[Xn];decide))
  have hro:∀ s:Fut w6,Calls Tryz.prog 37 #[.int .i64 4,.slice (some ⟨w.heap.size+1+1,0,none⟩) 2 2] s.v fun e w''=>e= .returned (.agg (Qd (Sn.root 4 [aw1,aw2])).toArray)∧∃ s':Fut w6,w''=s'.v:=fun s=>Calls.fut_of (UM 4 (by decide) [aw1,aw2] _ 2 2 _ s.v rfl (HR5.out.1.grown (gro H6.out.1 s.below)) (HR5.out.2.1.grown (gro H6.out.1 s.below)) (by decide) (by decide))
  obtain⟨R,hR⟩:∃ R,R=Qd (Sn.root 4 [aw1,aw2]):=⟨_,rfl⟩
  rw[← hR] at hrl heq hp6 hsr hro
  have HC:=hid (Qa hsr (Qa hro (QA hp6)))
  clear hsr hro hp6 hr6 hR hok
  refine Qr (by kernel_rfl) (by kernel_rfl) ?_
  repeat (first
   |(go_big_quiet_want;(with_reducible refine QG 42 (.tmp 48) g6 (o6+130) R 65 _ hrl HC.out.2.2 Tryz.underlying42 rfl (by kernel_rfl) ?_ ?_ ?_);rfl;rfl;simp only[Act.put,List.setIfInBounds_toArray,List.set_cons_zero,List.set_cons_succ];go_big_quiet_on)
   |(go_big_quiet_want;(with_reducible refine QG 42 (.tmp 54) g6 (o6+130) R 65 _ hrl HC.out.2.2 Tryz.underlying42 rfl (by kernel_rfl) ?_ ?_ ?_);rfl;rfl;simp only[Act.put,List.setIfInBounds_toArray,List.set_cons_zero,List.set_cons_succ];go_big_quiet_on)
   |go_big_quiet_step (first|with_reducible exact HC.out.1 _|with_reducible exact HC.out.2.1 _))
  refine wpQuiet_nil ?_
  rintro _ ⟨s,rfl⟩
  go_wp2_with fail
  go_ret
  exact⟨rfl,gro (gro HT.out.2.2.2.2.2 H5.out.1) (gro H6.out.1 s.below)⟩
theorem Qhz (n:Nat)(h2:n≤32)(es:List Ent)(k:Nat)(hk:k<1048576):∀ r∈Rl n es k,Je r:=by
 intro r hr
 unfold Rl at hr
 obtain⟨i,hi,rfl⟩:=List.mem_map.1 hr
 rw[List.mem_range] at hi
 exact Sn.root_ok2 n h2 _ (by rw[List.length_take];omega)
end Go.Proofs.YtpnakfeafekneaaGreatDoor
