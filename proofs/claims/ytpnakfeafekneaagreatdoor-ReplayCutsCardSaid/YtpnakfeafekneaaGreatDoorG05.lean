/- Part 5 of this proof. -/
import Derived.Test.YtpnakfeafekneaaGreatDoorRows
import Derived.WalkKit
import Derived.WalkSpells
import Derived.BigQuiet
import Derived.Deep.QuietTactic
import Derived.Deep.OwnRows
import Derived.Deep.LoopGhost
import Derived.StillTailTactics
import Derived.BigRegion
import Derived.Test.YtpnakfeafekneaaGreatDoorG01
import Derived.Test.YtpnakfeafekneaaGreatDoorG02
import Derived.Test.YtpnakfeafekneaaGreatDoorG03
import Derived.Test.YtpnakfeafekneaaGreatDoorG04
set_option linter.unusedSimpArgs false
set_option linter.unusedVariables false
set_option maxHeartbeats 8000000
set_option maxRecDepth 100000
namespace Go.Proofs.YtpnakfeafekneaaGreatDoor
open Go.RowKit
theorem Qa6:∀ n:Nat,n<32→1≤n→bits BinOp.and IntKind.u64 (IntKind.u64.wrap (wrap64 (-(n:Int)))) 31=32-(n:Int):=by decide +kernel
theorem Qah {a:Int}{b:UInt32}(h:a=n32 b):Ending.returned (.int .u32 a)= .returned (b32 b):=by rw[h]
theorem Qc3 (x:UInt32)(n:Nat)(h1:1≤n)(h2:n<32):bits BinOp.or IntKind.u32 (IntKind.u32.wrap (n32 x*2^(32-n))) (n32 x / 2^(32-(32-n)))=n32 (Sha.rotr n x):=by
 rw[JM x (32-n) (by omega),show 32-(32-n)=n from by omega,Jk x n h2,Qgv];rfl
theorem Qc4 (x:UInt32)(n:Nat)(h1:1≤n)(h2:n<32)(w:World):Calls Tryz.prog 225 #[b32 x,.int .i64 (-(n:Int))] w fun e w'=>e= .returned (b32 (Sha.rotr n x))∧w=w':=by
 have hc:=Qa6 n h2 h1
 rw[show wrap64 (-(n:Int))= -(n:Int) from by unfold wrap64;omega] at hc
 have hv:=Qc3 x n h1 h2
 have HV:Hid _:=hv
 clear hv
 go_enter Tryz.func225,Tryz.ntmps225
 simp only[b32]
 go_wp2
 go_ret
 exact⟨Qah HV.out,rfl⟩
theorem Jm (x:UInt32)(c:Int)(h1:1≤c)(h2:c<32)(w:World):Calls Tryz.prog 222 #[b32 x,.int .i64 c] w fun e w'=>e= .returned (b32 (Sha.rotr c.toNat x))∧w=w':=by
 obtain⟨n,rfl⟩:=Int.eq_ofNat_of_zero_le (show 0≤c by omega)
 rw[Int.toNat_natCast]
 go_enter Tryz.func222,Tryz.ntmps222
 go_wp2_with (go_at_call 225;refine (Qc4 x n (by omega) (by omega) _).mono ?_;rintro e w' ⟨rfl,rfl⟩)
 go_ret
 exact⟨rfl,rfl⟩
theorem Qc5 (w:World)(A B C D:Obj):
 ((((w.alloc A).alloc B).alloc C).alloc D).heap[w.heap.size]?=some A∧((((w.alloc A).alloc B).alloc C).alloc D).heap[w.heap.size+1]?=some B∧((((w.alloc A).alloc B).alloc C).alloc D).heap[w.heap.size+1+1]?=some C∧((((w.alloc A).alloc B).alloc C).alloc D).heap[w.heap.size+1+1+1]?=some D∧Below w.heap.size w ((((w.alloc A).alloc B).alloc C).alloc D):=by
 have sz:∀ (w:World) (o:Obj),(w.alloc o).heap.size=w.heap.size+1:=fun w o=>by simp
 refine⟨?_,?_,?_,?_,?_⟩
 ·rw[Below.heap_alloc _ _ _ (by simp<;>omega),Below.heap_alloc _ _ _ (by simp<;>omega),Below.heap_alloc _ _ _ (by simp)];exact heap_alloc_new w A
 ·rw[Below.heap_alloc _ _ _ (by simp<;>omega),Below.heap_alloc _ _ _ (by simp),←sz w A];exact heap_alloc_new _ _
 ·rw[Below.heap_alloc _ _ _ (by simp),←sz w A,←sz _ B];exact heap_alloc_new _ _
 ·rw[← sz w A,←sz _ B,←sz _ C];exact heap_alloc_new _ _
 ·exact ((((Below.refl _ _).alloc (Nat.le_refl _) _).alloc (by simp<;>omega) _).alloc (by simp<;>omega) _).alloc (by simp<;>omega) _
theorem Kd (w:World)(g:Nat)(t:TypeId)(cs:Array Value)(n:Nat)(f:Nat→Value)(h:w.heap[g]?=some (.cells cs t))(hn:cs.size=n)(hf:∀ i,i<n→cs[i]?=some (f i)):w.rowIs g t n f:=by
 subst hn
 exact⟨cs,h,rfl,hf⟩
def stf (s:Sha.St)(i:Nat):UInt32:=match i with|0=>s.a|1=>s.b|2=>s.c|3=>s.d|4=>s.e|5=>s.f|6=>s.g|_=>s.k
def stl (s:Sha.St):List Value:=[b32 s.a,b32 s.b,b32 s.c,b32 s.d,b32 s.e,b32 s.f,b32 s.g,b32 s.k]
theorem KZ (s:Sha.St)(j:Nat)(h:j<8):(stl s)[j]?=some (b32 (stf s j)):=by
 match j,h with|0,_=>rfl|1,_=>rfl|2,_=>rfl|3,_=>rfl|4,_=>rfl|5,_=>rfl|6,_=>rfl|7,_=>rfl
theorem Vk (s:Sha.St):(stl s).toArray.all (·.oneCell')=true:=all_oneCell_toArray (by simp[stl,Value.oneCell'])
structure C1 (m:Nat→UInt8) (s:Sha.St) (w:World) (k:Nat) (wr:World):Prop where
 r0:wr.rowIs w.heap.size 199 8 (fun i=>b32 (stf s i))
 r1:wr.rowIs (w.heap.size+1) 272 64 (fun i=>b8 (m i))
 r2:wr.rowIs (w.heap.size+1+1) 199 8 (fun _=>b32 0)
 r3:wr.rowIs (w.heap.size+1+1+1) 245 64 (fun i=>b32 (if i<k then Sha.W m i else 0))
 bl:Below w.heap.size w wr
theorem C1.start (m:Nat→UInt8)(B:Array Value)(hB:B.size=64)(hBm:∀ i,i<64→B[i]?=some (b8 (m i)))(s:Sha.St)(w:World):
 C1 m s w 0 ((((w.alloc (.cells #[b32 s.a,b32 s.b,b32 s.c,b32 s.d,b32 s.e,b32 s.f,b32 s.g,b32 s.k] 199)).alloc (.cells B 272)).alloc (.cells (Array.replicate 8 (.int .u32 0)) 199)).alloc (.cells (Array.replicate 64 (.int .u32 0)) 245)):=by
 obtain⟨F0,F1,F2,F3,F4⟩:=Qc5 w (.cells #[b32 s.a,b32 s.b,b32 s.c,b32 s.d,b32 s.e,b32 s.f,b32 s.g,b32 s.k] 199) (.cells B 272) (.cells (Array.replicate 8 (.int .u32 0)) 199) (.cells (Array.replicate 64 (.int .u32 0)) 245)
 exact⟨Kd _ _ _ _ 8 (fun i=>b32 (stf s i)) F0 rfl (by intro i hi;match i,hi with|0,_=>rfl|1,_=>rfl|2,_=>rfl|3,_=>rfl|4,_=>rfl|5,_=>rfl|6,_=>rfl|7,_=>rfl),
  Kd _ _ _ _ 64 (fun i=>b8 (m i)) F1 hB hBm,Kd _ _ _ _ 8 (fun i=>b32 0) F2 rfl (by intro i hi;simp[Array.getElem?_replicate,hi,JL]),
  Kd _ _ _ _ 64 (fun i=>b32 (if i<0 then Sha.W m i else 0)) F3 rfl (by intro i hi;simp[Array.getElem?_replicate,hi,JL]),F4⟩
theorem C1.next {m:Nat→UInt8}{s:Sha.St}{w wr:World}{k nq:Nat}(hC:C1 m s w k wr){v:Int}(hv:v=n32 (Sha.W m k)):
 C1 m s w (k+1) ((wr.drewN nq).setCell ⟨w.heap.size+1+1+1,k,none⟩ (.int .u32 v)):=by
 subst hv
 refine⟨World.rowIs.setOther (w:=wr.drewN nq) hC.r0 (by simp<;>omega) _,World.rowIs.setOther (w:=wr.drewN nq) hC.r1 (by simp<;>omega) _,World.rowIs.setOther (w:=wr.drewN nq) hC.r2 (by simp<;>omega) _,?_,?_⟩
 ·refine (World.rowIs.set (w:=wr.drewN nq) hC.r3 k (b32 (Sha.W m k))).congr fun i hi=>?_
  by_cases h:i=k
  ·subst h;simp
  ·rw[if_neg h]
   by_cases h':i<k
   ·rw[if_pos h',if_pos (by omega)]
   ·rw[if_neg h',if_neg (by omega)]
 ·exact (show Below w.heap.size w (wr.drewN nq) from hC.bl.trans ⟨rfl,rfl,rfl,Nat.le_refl _,fun _ _=>rfl⟩).setCell (by simp<;>omega) _
theorem C1.drewN {m:Nat→UInt8}{s:Sha.St}{w wr:World}{k:Nat}(nq:Nat)(hC:C1 m s w k wr):C1 m s w k (wr.drewN nq):=
 ⟨hC.r0,hC.r1,hC.r2,hC.r3,hC.bl.trans ⟨rfl,rfl,rfl,Nat.le_refl _,fun _ _=>rfl⟩⟩
theorem Qgw (st:Sha.St)(k:Nat)(x:UInt32):(n32 (st.k+(Sha.rotr 6 st.e ^^^ Sha.rotr 11 st.e ^^^ Sha.rotr 25 st.e))+n32 (st.e &&& st.f ^^^ ~~~st.e &&& st.g)+n32 (Sha.K k)+n32 x+
 n32 ((Sha.rotr 2 st.a ^^^ Sha.rotr 13 st.a ^^^ Sha.rotr 22 st.a)+(st.a &&& st.b ^^^ st.a &&& st.c ^^^ st.b &&& st.c))) % 4294967296=n32 (Sha.step st k x).a:=by
 simp only[Sha.step,Sha.T1,Sha.T2,Qag];omega
theorem Qgx (st:Sha.St)(k:Nat)(x:UInt32):(n32 st.d+(n32 (st.k+(Sha.rotr 6 st.e ^^^ Sha.rotr 11 st.e ^^^ Sha.rotr 25 st.e))+n32 (st.e &&& st.f ^^^ ~~~st.e &&& st.g)+n32 (Sha.K k)+n32 x)) % 4294967296=n32 (Sha.step st k x).e:=by
 simp only[Sha.step,Sha.T1,Qag];omega
theorem Qai (x y:Sha.St)(k:Nat):stf (x.add y) k=stf x k+stf y k:=by
 unfold stf
 match k with|0=>rfl|1=>rfl|2=>rfl|3=>rfl|4=>rfl|5=>rfl|6=>rfl|n+7=>rfl
structure C4 (m:Nat→UInt8) (s:Sha.St) (w:World) (k:Nat) (wr:World):Prop where
 r0:wr.rowIs w.heap.size 199 8 (fun i=>if i<k then b32 (stf (Sha.compress m s) i) else b32 (stf s i))
 r2:wr.rowIs (w.heap.size+1+1) 199 8 (fun _=>b32 0)
 bl:Below w.heap.size w wr
theorem C4.start {m:Nat→UInt8}{s:Sha.St}{w wr:World}(hC:C1 m s w 64 wr):C4 m s w 0 wr:=⟨hC.r0,hC.r2,hC.bl⟩
theorem C4.next {m:Nat→UInt8}{s:Sha.St}{w wr:World}{k:Nat}(hC:C4 m s w k wr){v:UInt32}(hv:stf (Sha.compress m s) k=v):
 C4 m s w (k+1) (wr.setCell ⟨w.heap.size,k,none⟩ (b32 v)):=by
 subst hv
 refine⟨?_,hC.r2.setOther (by simp<;>omega) _,hC.bl.setCell (by simp<;>omega) _⟩
 refine (hC.r0.set k (b32 (stf (Sha.compress m s) k))).congr fun i hi=>?_
 by_cases h:i=k
 ·subst h;simp
 ·rw[if_neg h]
  by_cases h':i<k
  ·rw[if_pos h',if_pos (by omega)]
  ·rw[if_neg h',if_neg (by omega)]
def Qs (w:World):Prop:=(∀ i,i<64→w.cell? ⟨0,i,none⟩=some (b32 (Sha.K i)))∧0<w.heap.size
theorem Qs.below {w w':World}(h:Qs w)(hb:Below w.heap.size w w'):Qs w':=⟨fun i hi=>(hb.cell (p:=⟨_,i,none⟩) h.2).trans (h.1 i hi),Nat.lt_of_lt_of_le h.2 hb.size⟩
theorem Vl (m:Nat→UInt8)(B:Array Value)(hB:B.size=64)(hBm:∀ i,i<64→B[i]?=some (b8 (m i)))(s:Sha.St)(w:World)(hw:Qs w):
 Calls Tryz.prog 208 #[.agg (stl s).toArray,.agg B] w fun e w'=>
  e= .returned (.agg (stl (Sha.compress m s)).toArray)∧Below w.heap.size w w':=by
 go_enter Tryz.func208,Tryz.ntmps208
 go_wp2_with fail
 go_loopg [25] 16 (fun g i wr=>∃ k:Nat,k+g=16∧i= .int .i64 k∧C1 m s w k wr)
 case atStart=>exact⟨0,by omega,rfl,C1.start m B hB hBm s w⟩
 case round=>
  obtain⟨k,hk,rfl,hC⟩:=hrel
  by_cases hlt:k<16
  ·have c0:wr.cell? ⟨w.heap.size+1,4*k,none⟩=some (b8 (m (4*k))):=hC.r1.cell (by omega)
   have c1:wr.cell? ⟨w.heap.size+1,4*k+1,none⟩=some (b8 (m (4*k+1))):=hC.r1.cell (by omega)
   have c2:wr.cell? ⟨w.heap.size+1,4*k+2,none⟩=some (b8 (m (4*k+2))):=hC.r1.cell (by omega)
   have c3:wr.cell? ⟨w.heap.size+1,4*k+3,none⟩=some (b8 (m (4*k+3))):=hC.r1.cell (by omega)
   have c4:wr.cell? ⟨w.heap.size+1+1+1,k,none⟩=some (b32 (if k<k then Sha.W m k else 0)):=hC.r3.cell (by omega)
   have c5:wr.frozen? ⟨w.heap.size+1+1+1,k,none⟩=false:=hC.r3.frozen _
   go_wp2_with fail
   refine QW 31 (by kernel_rfl) (by kernel_rfl) ?_
   dsimp only[List.take_succ_cons,List.take_zero,List.drop_succ_cons,List.drop_zero]
   repeat go_big_quiet_step (fail)
   refine wpQuiet_nil ?_
   rintro _ ⟨nq,rfl⟩
   go_wp2_with fail
   go_roundg (gk-1)
   case measure=>omega
   case rel=>exact⟨k+1,by omega,by go_num,hC.next (by rw[Sha.W_low m k hlt];rfl)⟩
  ·obtain rfl:k=16:=by omega
   clear hlt hk
   go_wp2_with fail
   go_loopg [7] 48 (fun g i wr=>∃ k:Nat,16≤k∧k+g=64∧i= .int .i64 k∧C1 m s w k wr)
   case atStart=>exact⟨16,by omega,by omega,rfl,hC⟩
   case round=>
    clear hC
    obtain⟨k,hk0,hk,rfl,hC⟩:=hrel
    by_cases hlt:k<64
    ·have c0:wr.cell? ⟨w.heap.size+1+1+1,k-15,none⟩=some (b32 (Sha.W m (k-15))):=by rw[hC.r3.cell (by omega),if_pos (by omega)]
     have c1:wr.cell? ⟨w.heap.size+1+1+1,k-2,none⟩=some (b32 (Sha.W m (k-2))):=by rw[hC.r3.cell (by omega),if_pos (by omega)]
     have c2:wr.cell? ⟨w.heap.size+1+1+1,k-16,none⟩=some (b32 (Sha.W m (k-16))):=by rw[hC.r3.cell (by omega),if_pos (by omega)]
     have c3:wr.cell? ⟨w.heap.size+1+1+1,k-7,none⟩=some (b32 (Sha.W m (k-7))):=by rw[hC.r3.cell (by omega),if_pos (by omega)]
     have c4:wr.cell? ⟨w.heap.size+1+1+1,k,none⟩=some (b32 (if k<k then Sha.W m k else 0)):=hC.r3.cell (by omega)
     have c5:wr.frozen? ⟨w.heap.size+1+1+1,k,none⟩=false:=hC.r3.frozen _
     go_wp2_with fail
     go_quiet ((refine (Jm _ _ (by decide) (by decide) _).mono ?_;rintro e w' ⟨rfl,rfl⟩;exact⟨rfl,_,rfl⟩))
     go_wp2_with fail
     go_quiet ((refine (Jm _ _ (by decide) (by decide) _).mono ?_;rintro e w' ⟨rfl,rfl⟩;exact⟨rfl,_,rfl⟩))
     go_wp2_with fail
     refine QW 15 (by kernel_rfl) (by kernel_rfl) ?_
     dsimp only[List.take_succ_cons,List.take_zero,List.drop_succ_cons,List.drop_zero]
     repeat go_big_quiet_step (fail)
     refine wpQuiet_nil ?_
     rintro _ ⟨nq3,rfl⟩
     go_wp2_with fail
     go_roundg (gk-1)
     case measure=>omega
     case rel=>exact⟨k+1,by omega,by omega,by go_num,hC.next (by rw[Sha.W_high m k (by omega)];rfl)⟩
    ·obtain rfl:k=64:=by omega
     clear hlt hk hk0
     have HP:Hid (C1 m s w 64 wr):=hC
     clear hC
     have q0:wr.cell? ⟨w.heap.size,0,none⟩=some (b32 s.a):=HP.out.r0.cell (by omega)
     have q1:wr.cell? ⟨w.heap.size,1,none⟩=some (b32 s.b):=HP.out.r0.cell (by omega)
     have q2:wr.cell? ⟨w.heap.size,2,none⟩=some (b32 s.c):=HP.out.r0.cell (by omega)
     have q3:wr.cell? ⟨w.heap.size,3,none⟩=some (b32 s.d):=HP.out.r0.cell (by omega)
     have q4:wr.cell? ⟨w.heap.size,4,none⟩=some (b32 s.e):=HP.out.r0.cell (by omega)
     have q5:wr.cell? ⟨w.heap.size,5,none⟩=some (b32 s.f):=HP.out.r0.cell (by omega)
     have q6:wr.cell? ⟨w.heap.size,6,none⟩=some (b32 s.g):=HP.out.r0.cell (by omega)
     have q7:wr.cell? ⟨w.heap.size,7,none⟩=some (b32 s.k):=HP.out.r0.cell (by omega)
     go_wp2_with fail
     go_quiet (fail)
     clear q0 q1 q2 q3 q4 q5 q6 q7
     go_wp2_with fail
     go_loopg [10,11,12,13,14,15,16,17,129] 64 (fun g a b c d e f h i kk wr=>∃ k:Nat,k+g=64∧kk= .int .i64 k∧C1 m s w 64 wr∧a=b32 (Sha.rnd m s k).a∧b=b32 (Sha.rnd m s k).b∧c=b32 (Sha.rnd m s k).c∧d=b32 (Sha.rnd m s k).d∧e=b32 (Sha.rnd m s k).e∧f=b32 (Sha.rnd m s k).f∧h=b32 (Sha.rnd m s k).g∧i=b32 (Sha.rnd m s k).k)
     case atStart=>exact⟨0,by omega,rfl,HP.out.drewN _,rfl,rfl,rfl,rfl,rfl,rfl,rfl,rfl⟩
     case round=>
      clear HP
      obtain⟨k,hk,rfl,hC,rfl,rfl,rfl,rfl,rfl,rfl,rfl,rfl⟩:=hrel
      have HC:=hid hC
      clear hC
      obtain⟨st,hst⟩:∃ st,st=Sha.rnd m s k:=⟨_,rfl⟩
      rw[← hst]
      have HST:=hid hst
      clear hst
      by_cases hlt:k<64
      ·have w0:wr.cell? ⟨0,k,none⟩=some (b32 (Sha.K k)):=(HC.out.bl.cell (p:=⟨_,k,none⟩) hw.2).trans (hw.1 k hlt)
       have w1:wr.cell? ⟨w.heap.size+1+1+1,k,none⟩=some (b32 (Sha.W m k)):=by rw[HC.out.r3.cell hlt,if_pos hlt]
       go_wp2_with ((refine (Jm _ _ (by decide) (by decide) _).mono ?_;rintro e w' ⟨rfl,rfl⟩))
       go_quiet (fail)
       go_wp2_with ((refine (Jm _ _ (by decide) (by decide) _).mono ?_;rintro e w' ⟨rfl,rfl⟩))
       go_roundg (gk-1)
       case measure=>omega
       case rel=>
        refine⟨k+1,by omega,by go_num,HC.out.drewN _,?_,?_,?_,?_,?_,?_,?_,?_⟩<;>rw[Sha.rnd,←HST.out]
        ·exact congrArg (Value.int .u32) (Qgw st k _)
        all_goals first|rfl|exact congrArg (Value.int .u32) (Qgx st k _)
      ·obtain rfl:k=64:=by omega
       go_wp2_with fail
       have HC4:=hid (C4.start HC.out)
       clear HC
       go_loopg [203] 8 (fun g i wr=>∃ k:Nat,k+g=8∧i= .int .i64 k∧C4 m s w k wr)
       case atStart=>exact⟨0,by omega,rfl,HC4.out⟩
       case round=>
        clear HC4
        obtain⟨k,hk,rfl,hC⟩:=hrel
        have HC:=hid hC
        clear hC
        by_cases hlt:k<8
        ·have hix:∀ w,(Instr.index 199 (.agg #[b32 st.a,b32 st.b,b32 st.c,b32 st.d,b32 st.e,b32 st.f,b32 st.g,b32 st.k]) (.int .i64 k)).run Tryz.prog w= .ok (b32 (stf st k)) w:=
          Jz Tryz.underlying199 Tryz.underlying198 rfl (by kernel_rfl) _ k _ hlt (by match k,hlt with|0,_=>rfl|1,_=>rfl|2,_=>rfl|3,_=>rfl|4,_=>rfl|5,_=>rfl|6,_=>rfl|7,_=>rfl)
         have w0:wr.cell? ⟨w.heap.size,k,none⟩=some (b32 (stf s k)):=by rw[HC.out.r0.cell hlt,if_neg (by omega)]
         have w1:wr.frozen? ⟨w.heap.size,k,none⟩=false:=HC.out.r0.frozen _
         go_wp2_with fail
         go_roundg (gk-1)
         case measure=>omega
         case rel=>exact⟨k+1,by omega,by go_num,HC.out.next (by rw[Sha.compress,Qai,←HST.out])⟩
        ·obtain rfl:k=8:=by omega
         have hl:wr.rangeAt w.heap.size 0 (stl (Sha.compress m s)):=World.rangeAt_of_row HC.out.r0 0 _ (by intro j hj;rw[Nat.zero_add,if_pos (show j<8 from hj)];exact KZ _ j hj) (by rw[Nat.zero_add];exact Nat.le_refl 8)
         have ht:wr.there (w.heap.size+1+1) 0 8:=World.there_of_row HC.out.r2 0 8 (by omega)
         go_wp2_with (first|(refine wpList_load_mid (by rfl) 199 (.tmp 2) (by rfl) _ 0 (by rfl) _ _ hl Tryz.underlying199 rfl (by kernel_rfl) ?_)|(refine wpList_store_mid (by rfl) 199 (.tmp 4) (.tmp 214) (by rfl) (w.heap.size+1+1) 0 (stl (Sha.compress m s)).toArray (by rfl) (by rfl) ht (by kernel_rfl) (Vk _) ?_))
         exact Jl rfl (w.heap.size+1+1) 0 rfl _ (World.rangeAt_setCells_same _ _ _ _ ht) _ Tryz.underlying199 rfl (by kernel_rfl) rfl ⟨rfl,Qc _ (by omega) _ _ _ HC.out.bl⟩
def QF (h:Sha.St)(bg:Bool)(bb:List UInt8)(n:Nat):List Value:=stl h++(.bool bg :: (bb.map b8++[.int .u64 n]))
theorem XI (h:Sha.St)(bg:Bool)(bb:List UInt8)(n:Nat)(hb:bb.length=64):(QF h bg bb n).length=74:=by simp[QF,stl,hb]
theorem Ke (h h':Sha.St)(bg:Bool)(bb:List UInt8)(n:Nat):splice (QF h bg bb n) 0 (stl h')=QF h' bg bb n:=by simp[splice,QF,stl]
theorem U9 (h:Sha.St)(bg bg':Bool)(bb:List UInt8)(n:Nat):(QF h bg bb n).set 8 (.bool bg')=QF h bg' bb n:=by simp[QF,stl]
theorem YO (h:Sha.St)(bg:Bool)(bb:List UInt8)(n n':Nat)(hb:bb.length=64):(QF h bg bb n).set 73 (.int .u64 n')=QF h bg bb n':=by
 simp[QF,stl,List.set_append,hb]
theorem Wa (h:Sha.St)(bg:Bool)(bb x:List UInt8)(n at_:Nat)(hb:bb.length=64)(hx:at_+x.length≤64):
 splice (QF h bg bb n) (9+at_) (x.map b8)=QF h bg (bb.take at_++(x++bb.drop (at_+x.length))) n:=by
 have e:QF h bg bb n=(stl h++[.bool bg])++(bb.map b8++[.int .u64 n]):=by simp[QF]
 have l1:(stl h++[Value.bool bg]).length=9:=rfl
 rw[e]
 unfold splice
 rw[List.take_append,List.take_of_length_le (by omega),l1,show 9+at_-9=at_ from by omega,List.take_append_of_le_length (by simp;omega),List.length_map,
  List.drop_append,List.drop_of_length_le (by omega),l1,List.drop_append,show 9+at_+x.length-9=at_+x.length from by omega]
 simp[QF,hb,show at_+x.length-64=0 from by omega]
theorem JF (h:Sha.St)(bg:Bool)(bb:List UInt8)(n:Nat)(hb:bb.length=64):(QF h bg bb n)[73]?=some (.int .u64 n):=by
 simp[QF,stl,List.getElem?_append,hb]
theorem Qa7 (w:World):Calls Tryz.prog 221 #[] w fun e w'=>e= .returned (.agg (stl Sha.H0).toArray)∧Below w.heap.size w w':=by
 go_enter Tryz.func221,Tryz.ntmps221
 go_wp2_with fail
 exact Jl rfl w.heap.size 0 rfl (stl Sha.H0) (Blk.new w _ (stl Sha.H0)).whole _ Tryz.underlying199 rfl (by kernel_rfl) rfl ⟨rfl,(Below.refl _ _).alloc (Nat.le_refl _) _⟩
theorem Qfc (w:World):Calls Tryz.prog 178 #[] w fun e w'=>e= .returned (.pointer (some ⟨w.heap.size,0,none⟩))∧Below w.heap.size w w'∧Blk w' w.heap.size 274 (QF ⟨0,0,0,0,0,0,0,0⟩ false (List.replicate 64 0) 0):=by
 go_enter Tryz.func178,Tryz.ntmps178
 go_wp2_with fail
 go_ret
 exact⟨rfl,(Below.refl _ _).alloc (Nat.le_refl _) _,Blk.new _ _ _⟩
theorem Qa8 (b:Nat)(h:Sha.St)(bb:List UInt8)(n:Nat)(w:World)(hbb:bb.length=64)(hb:Blk w b 274 (QF h false bb n)):
 Calls Tryz.prog 207 #[.pointer (some ⟨b,0,none⟩)] w fun e w'=>e= .returned (.tuple #[])∧Qu (· =b) w w'∧Blk w' b 274 (QF Sha.H0 true bb n):=by
 have c8:w.cell? ⟨b,8,none⟩=some (.bool false):=by rw[hb.cell];rfl
 have HB:=hid hb
 clear hb
 go_enter Tryz.func207,Tryz.ntmps207
 go_wp2_with fail
 refine (Qa7 _).mono ?_
 rintro e w1 ⟨rfl,hb1⟩
 have hk0:=HB.out.grown hb1
 have hth:w1.there b 0 (stl Sha.H0).toArray.size:=hk0.there 0 8 (by rw[XI _ _ _ _ hbb];decide)
 have hk1:=hid (hk0.setCells (stl Sha.H0) 0 _ (by rw[XI _ _ _ _ hbb];decide))
 clear hk0
 have c9:(w1.setCells b 0 (stl Sha.H0)).cell? ⟨b,8,none⟩=some (.bool false):=by rw[hk1.out.cell,Ke];rfl
 have f9:(w1.setCells b 0 (stl Sha.H0)).frozen? ⟨b,8,none⟩=false:=hk1.out.frozen _
 go_wp2_with ((with_reducible refine wpList_store_mid ?_ 199 (.tmp 11) (.tmp 9) ?_ b 0 (stl Sha.H0).toArray ?_ ?_ hth ?_ (Vk _) ?_);rfl;rfl;rfl;rfl;kernel_rfl)
 go_end0
 refine⟨rfl,?_,?_⟩
 ·exact ((Qu.of_grown hb1).setN 0 _).set1 8 _
 ·have:=hk1.out.set_ 8 (.bool true)
  rwa [Ke,U9] at this
theorem Qa9 (b:Nat)(h:Sha.St)(bb:List UInt8)(n:Nat)(w:World)(hb:Blk w b 274 (QF h true bb n)):
 Calls Tryz.prog 207 #[.pointer (some ⟨b,0,none⟩)] w fun e w'=>e= .returned (.tuple #[])∧w=w':=by
 have c8:w.cell? ⟨b,8,none⟩=some (.bool true):=by rw[hb.cell];rfl
 go_enter Tryz.func207,Tryz.ntmps207
 go_wp2_with fail
 go_end0
 exact⟨rfl,rfl⟩
def KX (w:World)(b:Nat)(l:List UInt8):Prop:=∃ h bg bb,Blk w b 274 (QF h bg bb l.length)∧Sha.Took l h bg bb
def Qc6 (w:World)(b:Nat)(l:List UInt8):Prop:=∃ h bb,Blk w b 274 (QF h true bb l.length)∧Sha.Took l h true bb
theorem Qc6.at_ {w:World}{b:Nat}{l:List UInt8}:Qc6 w b l→KX w b l:=fun⟨h,bb,h1,h2⟩=>⟨h,true,bb,h1,h2⟩
theorem Qba (b:Nat)(l:List UInt8)(w:World)(hs:KX w b l):
 Calls Tryz.prog 207 #[.pointer (some ⟨b,0,none⟩)] w fun e w'=>e= .returned (.tuple #[])∧Qu (· =b) w w'∧Qc6 w' b l:=by
 obtain⟨h,bg,bb,h1,h2⟩:=hs
 cases bg with
 |true=>exact (Qa9 b h bb _ w h1).mono fun e w' ⟨he,hw⟩=>by subst hw;exact⟨he,Qu.refl _ _,h,bb,h1,h2⟩
 |false=>exact (Qa8 b h bb _ w h2.size h1).mono fun e w' ⟨he,hk,hb⟩=>⟨he,hk,_,bb,hb,h2.begun⟩
end Go.Proofs.YtpnakfeafekneaaGreatDoor
