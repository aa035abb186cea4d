/- Part 8 of this proof. -/
import Derived.Deep.Cut
import Derived.Deep.WholeRow
import Derived.Deep.CutBlock
import Derived.Test.YtpnakfeafekneaaGreatDoorG07
set_option linter.unusedSimpArgs false
set_option linter.unusedVariables false
set_option maxHeartbeats 8000000
set_option maxRecDepth 100000
namespace Go.Proofs.YtpnakfeafekneaaGreatDoor
open Go.RowKit
theorem KX.grown {w w':World}{b:Nat}{l:List UInt8}(h:KX w b l)(hb:Below w.heap.size w w'):KX w' b l:=by
 obtain⟨h,bg,bb,h1,h2⟩:=h
 exact⟨h,bg,bb,h1.grown hb,h2⟩
theorem KX.lt {w:World}{b:Nat}{l:List UInt8}(h:KX w b l):b<w.heap.size:=by
 obtain⟨h,bg,bb,h1,h2⟩:=h
 exact h1.lt
def JG (h:Sha.St)(k:Nat)(t:Nat):Value:=b8 (if t<k then Sha.outB h t else 0)
theorem VZ (h:Sha.St)(bg:Bool)(bb:List UInt8)(n:Nat):(QF h bg bb n).toArray.all (·.oneCell')=true:=all_oneCell_toArray (by
 intro v hv
 simp only[QF,stl,List.cons_append,List.nil_append,List.mem_cons,List.mem_append,List.mem_map,List.not_mem_nil,or_false] at hv
 rcases hv with rfl|rfl|rfl|rfl|rfl|rfl|rfl|rfl|rfl|⟨x,_,rfl⟩|rfl<;>rfl)
theorem Qbe {h:Sha.St}{k j:Nat}{wr:World}{g:Nat}(hk:k<8)(hj:j<4)(hr:wr.rowIs g 39 32 (JG h (4*k+j))):
 (wr.setCell ⟨g,4*k+j,none⟩ (.int .u8 (n32 (Sha.word h k) / 2^(24-8*j) % 256))).rowIs g 39 32 (JG h (4*k+(j+1))):=by
 have e:n32 (Sha.word h k) / 2^(24-8*j) % 256=n8 (Sha.outB h (4*k+j)):=by
  rw[Jk _ _ (by omega),←IntKind.wrap_u8,Kc]
  unfold Sha.outB
  rw[show (4*k+j) / 4=k from by omega,show (4*k+j) % 4=j from by omega]
 rw[e]
 refine (hr.set (4*k+j) (b8 (Sha.outB h (4*k+j)))).congr fun i hi=>?_
 unfold JG
 by_cases h1:i=4*k+j
 ·subst h1;rw[if_pos rfl,if_pos (by omega)]
 ·rw[if_neg h1]
  by_cases h2:i<4*k+j
  ·rw[if_pos h2,if_pos (by omega)]
  ·rw[if_neg h2,if_neg (by omega)]
theorem Qaj (h:Sha.St)(j:Nat)(hj:j<32):((Sha.out h).map b8)[j]?=some (JG h (4*8) (0+j)):=by
 unfold Sha.out JG
 rw[Nat.zero_add,if_pos (show j<4*8 by omega),List.map_map,List.getElem?_map,List.getElem?_range hj]
 rfl
structure Qfe (w:World) (l:List UInt8) (w':World):Prop where
 st:KX w' (w.heap.size+1+1) l
 o:w'.rowIs (w.heap.size+1) 39 32 (fun _=>b8 0)
 r:w'.rowIs w.heap.size 39 32 (fun _=>b8 0)
 bl:Below w.heap.size w w'
 ws:Qs w'
theorem Qfe.start {w:World}{l:List UInt8}{h:Sha.St}{bg:Bool}{bb:List UInt8}(hw:Qs w)(ht:Sha.Took l h bg bb):
 Qfe w l (((w.alloc (.cells (Array.replicate 32 (.int .u8 0)) 39)).alloc (.cells (Array.replicate 32 (.int .u8 0)) 39)).alloc (.cells (QF h bg bb l.length).toArray 274)):=by
 have b1:Below w.heap.size w (((w.alloc (.cells (Array.replicate 32 (.int .u8 0)) 39)).alloc (.cells (Array.replicate 32 (.int .u8 0)) 39)).alloc (.cells (QF h bg bb l.length).toArray 274)):=
  (((Below.refl _ _).alloc (Nat.le_refl _) _).alloc (by simp) _).alloc (by simp;omega) _
 refine⟨⟨h,bg,bb,?_,ht⟩,?_,?_,b1,hw.below b1⟩
 ·have:=Blk.new ((w.alloc (.cells (Array.replicate 32 (.int .u8 0)) 39)).alloc (.cells (Array.replicate 32 (.int .u8 0)) 39)) 274 (QF h bg bb l.length)
  simpa using this
 ·exact Xf (ZH w _ _ _ (List.replicate 32 (.int .u8 0))) (by simp) (fun i hi=>by rw[List.getElem?_replicate,if_pos hi];rfl)
 ·exact Xf (((Blk.new w _ (List.replicate 32 (.int .u8 0))).alloc _).alloc _) (by simp) (fun i hi=>by rw[List.getElem?_replicate,if_pos hi];rfl)
theorem Qff (b:Nat)(l:List UInt8)(w:World)(hs:KX w b l)(hw:Qs w)(hlen:l.length<576460752303423488):
 Calls Tryz.prog 180 #[.pointer (some ⟨b,0,none⟩)] w fun e w'=>e= .returned (dg (Sha.sum l))∧Below w.heap.size w w':=by
 obtain⟨h,bg,bb,hblk,htk⟩:=hs
 have hr:w.rangeAt b 0 (QF h bg bb l.length):=hblk.whole
 have hlb:b<w.heap.size:=hblk.lt
 have c73:w.cell? ⟨b,73,none⟩=some (.int .u64 l.length):=by rw[hblk.cell];exact JF _ _ _ _ htk.size
 have HT:=hid (Qa htk (Qa hblk hr))
 clear htk hblk hr
 have hlen74:(QF h bg bb l.length).length=74:=XI _ _ _ _ HT.out.1.size
 have HL:=hid hlen74
 clear hlen74
 go_enter Tryz.func180,Tryz.ntmps180
 go_upto_region 4 with (fail)
 have b2:Below w.heap.size w ((w.alloc (.cells (Array.replicate 32 (.int .u8 0)) 39)).alloc (.cells (Array.replicate 32 (.int .u8 0)) 39)):=((Below.refl _ _).alloc (Nat.le_refl _) _).alloc (by simp) _
 have hr2:=Qm HT.out.2.2 b2
 obtain⟨W,hW⟩:∃ W,W=((w.alloc (.cells (Array.replicate 32 (.int .u8 0)) 39)).alloc (.cells (Array.replicate 32 (.int .u8 0)) 39)):=⟨_,rfl⟩
 refine Qe (fun w'=>w'=W) hW.symm ?_
 rintro w' rfl
 rw[← hW] at hr2
 have HW:=hid hW
 clear hW b2
 go_upto_region 5 with (first
  |((with_reducible refine wpList_load_mid ?_ 274 (.tmp 12) ?_ b 0 ?_ _ _ hr2 Tryz.underlying274 rfl ?_ ?_);rfl;rfl;rfl;(rw [HL.out];kernel_rfl))
  |((with_reducible refine wpList_store_row ?_ 274 (.tmp 4) (.tmp 13) ?_ w'.heap.size (QF h bg bb l.length).toArray ?_ ?_ 274 _ (heap_alloc_new _ _) ?_ ?_ ?_ ?_);rfl;rfl;rfl;rfl;(simp only[List.size_toArray];rw[HL.out];kernel_rfl);(simp only[List.size_toArray];rw[HL.out];rfl);exact VZ _ _ _ _;rw[World.setRow_alloc_new]))
 have hsz:w'.heap.size=w.heap.size+1+1:=by rw[HW.out];simp
 have c73w:(w'.alloc (.cells (QF h bg bb l.length).toArray 274)).cell? ⟨b,73,none⟩=some (.int .u64 l.length):=by
  have bw:Below w.heap.size w (w'.alloc (.cells (QF h bg bb l.length).toArray 274)):=by rw[HW.out];exact (((Below.refl _ _).alloc (Nat.le_refl _) _).alloc (by simp) _).alloc (by simp;omega) _
  rw[bw.cell hlb];exact c73
 simp only[hsz]
 refine Qe (fun w2=>Qfe w l w2∧w2.cell? ⟨b,73,none⟩=some (.int .u64 l.length)) ⟨by rw[HW.out];exact Qfe.start hw HT.out.1,c73w⟩ ?_
 clear c73w hr2 HW hsz c73
 rintro w2 ⟨hsi,c73⟩
 clear w'
 have HS:=hid hsi
 clear hsi
 go_upto_region 6 with (first
  |(go_at_call 209;refine (VY l.length _ (by omega)).mono ?_;rintro e w3 ⟨rfl,hb3,hp3⟩;have HP:=hid (Qa hb3 hp3);clear hb3 hp3)
  |(go_at_call 179
    have hz1:w.heap.size+1+1<w2.heap.size:=(HS.out.st.lt)
    have hz0:0<w.heap.size:=Nat.lt_of_le_of_lt (Nat.zero_le _) hw.2
    refine (YP (w.heap.size+1+1) l (Sha.padding l.length) _ _ _ (HS.out.st.grown HP.out.1) (HS.out.ws.below HP.out.1) (by omega) (Rd.of _ HP.out.2.whole) (Nat.le_refl _) (by rintro _ ad he;cases he;show w2.heap.size≠_;omega) (by rw[Sha.padding_length];omega)).mono ?_
    rintro e w4 ⟨rfl,hk4,hs4⟩
    have HP4:=hid (Qa hk4 hs4)
    clear hk4 hs4))
 obtain⟨h4,bb4,hblk4,htk4⟩:=HP4.out.2
 have hkS:Qu (· =w.heap.size+1+1) w2 w4:=(Qu.of_grown HP.out.1).trans HP4.out.1
 have ho:w4.rowIs (w.heap.size+1) 39 32 (JG h4 0):=(HS.out.o.of_block (hkS.block _ HS.out.o.lt (by show ¬_=_;omega))).congr (fun i hi=>by unfold JG;rw[if_neg (by omega)])
 have hr:w4.rowIs w.heap.size 39 32 (fun _=>b8 0):=HS.out.r.of_block (hkS.block _ HS.out.r.lt (by show ¬_=_;omega))
 have hbw:Below w.heap.size w w4:=Qu.step HS.out.bl hkS HS.out.bl.size (fun k hk=>by show ¬_=_;omega)
 have hh4:h4=Sha.H (l++Sha.padding l.length):=htk4.words rfl
 have hrg:w4.rangeAt (w.heap.size+1+1) 0 (stl h4):=hblk4.range [] (stl h4) _ rfl
 have H4:=hid (Qa ho (Qa hr (Qa hbw hh4)))
 clear hkS ho hr hbw hh4 HP HP4 HS hblk4 htk4 c73
 go_wp2_with ((with_reducible refine wpList_load_mid ?_ 199 (.tmp 20) ?_ (w.heap.size+1+1) 0 ?_ _ _ hrg Tryz.underlying199 rfl ?_ ?_);rfl;rfl;rfl;kernel_rfl)
 go_loopg [22] 8 (fun g i wr=>∃ k:Nat,k+g=8∧i= .int .i64 k∧wr.rowIs (w.heap.size+1) 39 32 (JG h4 (4*k))∧wr.rowIs w.heap.size 39 32 (fun _=>b8 0)∧Below w.heap.size w wr)
 case atStart=>exact⟨0,by omega,rfl,H4.out.1,H4.out.2.1,H4.out.2.2.1⟩
 case round=>
  have HH:=hid H4.out.2.2.2
  clear H4 hrg
  obtain⟨k,hk,rfl,hi⟩:=hrel
  have HI:=hid hi
  clear hi
  by_cases hlt:k<8
  ·have hix:∀ w,(Instr.index 199 (.agg #[b32 h4.a,b32 h4.b,b32 h4.c,b32 h4.d,b32 h4.e,b32 h4.f,b32 h4.g,b32 h4.k]) (.int .i64 k)).run Tryz.prog w= .ok (b32 (Sha.word h4 k)) w:=
    Jz Tryz.underlying199 Tryz.underlying198 rfl (by kernel_rfl) _ k _ hlt (by match k,hlt with|0,_=>rfl|1,_=>rfl|2,_=>rfl|3,_=>rfl|4,_=>rfl|5,_=>rfl|6,_=>rfl|7,_=>rfl)
   have hix2:∀ w,(Instr.index 199 (.agg (stl h4).toArray) (.int .i64 k)).run Tryz.prog w= .ok (b32 (Sha.word h4 k)) w:=hix
   go_wp2_with fail
   go_loopg [26] 4 (fun g i wr=>∃ j:Nat,j+g=4∧i= .int .i64 j∧wr.rowIs (w.heap.size+1) 39 32 (JG h4 (4*k+j))∧wr.rowIs w.heap.size 39 32 (fun _=>b8 0)∧Below w.heap.size w wr)
   case atStart=>exact⟨0,by omega,rfl,HI.out.1,HI.out.2.1,HI.out.2.2⟩
   case round=>
    clear HI
    obtain⟨j,hj,rfl,hi⟩:=hrel
    have HI:=hid hi
    clear hi
    by_cases hjl:j<4
    ·have c1:=HI.out.1.cell (i:=4*k+j) (by omega)
     have f1:=HI.out.1.frozen (4*k+j)
     go_wp2_with fail
     go_roundg (gk-1)
     case measure=>omega
     case rel=>exact⟨j+1,by omega,by go_num,Qbe hlt hjl HI.out.1,HI.out.2.1.setOther (by simp) _,HI.out.2.2.setCell (by simp) _⟩
    ·obtain rfl:j=4:=by omega
     go_wp2_with fail
     go_roundg (7-k)
     case measure=>omega
     case rel=>exact⟨k+1,by omega,by go_num,HI.out.1,HI.out.2.1,HI.out.2.2⟩
  ·obtain rfl:k=8:=by omega
   have hl:wr.rangeAt (w.heap.size+1) 0 ((Sha.out h4).map b8):=World.rangeAt_of_row HI.out.1 0 _ (by intro j hj;exact Qaj h4 j (by simpa [Sha.out] using hj)) (by simp[Sha.out])
   have ht:wr.there w.heap.size 0 32:=World.there_of_row HI.out.2.1 0 32 (by omega)
   have hlo:((Sha.out h4).map b8).length=32:=by simp[Sha.out]
   have HO:=hid hlo
   clear hlo
   go_wp2_with (first
    |((with_reducible refine Qf 39 (.tmp 3) (w.heap.size+1) 0 _ 32 _ HO.out hl Tryz.underlying39 rfl (by kernel_rfl) ?_ ?_ ?_ ?_);rfl;rfl;rfl)
    |((with_reducible refine Qv 39 (.tmp 2) (.tmp 42) w.heap.size 0 _ 32 HO.out ht (by kernel_rfl) (Qi _) ?_ ?_ ?_ ?_ ?_);rfl;rfl;rfl;rfl))
   refine QD w.heap.size 0 _ 32 _ HO.out (World.rangeAt_setCells_same _ _ _ _ (by rw[HO.out];exact ht)) Tryz.underlying39 rfl (by kernel_rfl) rfl rfl rfl ⟨?_,Qc _ (Nat.le_refl _) _ _ _ HI.out.2.2⟩
   rw[HH.out];rfl
end Go.Proofs.YtpnakfeafekneaaGreatDoor
