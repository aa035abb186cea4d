/- Part 17 of this proof. -/
import Derived.Laws.EntriesVeiled
import Derived.Test.YtpnakfeafekneaaGreatDoorG13
import Derived.Test.YtpnakfeafekneaaGreatDoorG15
import Derived.Test.YtpnakfeafekneaaGreatDoorG16
set_option linter.unusedSimpArgs false
set_option linter.unusedVariables false
set_option maxHeartbeats 8000000
set_option maxRecDepth 100000
namespace Go.Proofs.YtpnakfeafekneaaGreatDoor
open Go.RowKit
theorem Wp (n:Nat)(h1:0<n)(h:n &&& (n-1)=0):∃ k,n=2^k:=by
 refine⟨n.log2,?_⟩
 have hb:=(Nat.log2_eq_iff (n:=n) (k:=n.log2) (by omega)).1 rfl
 rcases Nat.lt_or_ge (2^n.log2) n with hlt|hge
 ·exfalso
  have b1:n.testBit n.log2=true:=by
   rw[Nat.testBit_eq_decide_div_mod_eq,decide_eq_true_eq]
   have:n / 2^n.log2=1:=Nat.div_eq_of_lt_le (by omega) (by rw[Nat.pow_succ] at hb;omega)
   rw[this]
  have b2:(n-1).testBit n.log2=true:=by
   rw[Nat.testBit_eq_decide_div_mod_eq,decide_eq_true_eq]
   have:(n-1) / 2^n.log2=1:=Nat.div_eq_of_lt_le (by omega) (by rw[Nat.pow_succ] at hb;omega)
   rw[this]
  have:(n &&& (n-1)).testBit n.log2=true:=by rw[Nat.testBit_and,b1,b2];rfl
  rw[h] at this
  simp at this
 ·omega
theorem Qfp (a b:Nat)(ha:a<18446744073709551616)(hb:b<18446744073709551616):bits .and .u64 (a:Int) (b:Int)=((a &&& b:Nat):Int):=by
 have e:∀ x:Nat,x<18446744073709551616→BitVec.ofInt 64 (x:Int)=BitVec.ofNat 64 x:=fun x _=>by apply BitVec.eq_of_toNat_eq;simp
 show IntKind.u64.wrap (((BitVec.ofInt 64 (a:Int)) &&& (BitVec.ofInt 64 (b:Int))).toNat:Int)=_
 rw[e a ha,e b hb,BitVec.toNat_and,BitVec.toNat_ofNat,BitVec.toNat_ofNat,Nat.mod_eq_of_lt ha,Nat.mod_eq_of_lt hb,IntKind.wrap_u64]
 have:a &&& b≤a:=Nat.and_le_left
 omega
abbrev ZR (B0 B8:Nat):Value:= .func (Fn.func 182) #[] #[ptr B0,ptr B8]
theorem Wq (B0 B8 b n:Nat)(hn1:1≤n)(hn2:n≤32)(ds:List (List UInt8))(hds:ds.length<1099511627776):∀ (m lo hi:Nat) (w:World),hi-lo≤m→lo<hi→hi≤ds.length→QT w b n ds→Qs w→Blk w B0 97 [ptr b]→Blk w B8 253 [ZR B0 B8]→
 Calls Tryz.prog 182 #[.int .u64 lo,.int .u64 hi,ptr B0,ptr B8] w fun e w'=>e= .returned (dg (Mt.log n ((ds.drop lo).take (hi-lo))))∧Below w.heap.size w w':=by
 intro m
 induction m with
 |zero=>intro lo hi w hm hl;omega
 |succ m ih=>
  intro lo hi w hm hl hh hT hw hb0 hb8
  obtain⟨N,hN⟩:∃ N,N=hi-lo:=⟨_,rfl⟩
  have hs1:IntKind.u64.wrap ((hi:Int)-(lo:Int))=(N:Int):=by rw[IntKind.wrap_u64];omega
  have hs2:IntKind.u64.wrap ((N:Int)-1)=((N-1:Nat):Int):=by rw[IntKind.wrap_u64];omega
  have hs3:=Qfp N (N-1) (by omega) (by omega)
  have c0:w.cell? ⟨B0,0,none⟩=some (ptr b):=by rw[hb0.cell];rfl
  have c8:w.cell? ⟨B8,0,none⟩=some (ZR B0 B8):=by rw[hb8.cell];rfl
  obtain⟨A,c,bs,ts,hTi⟩:=hT.is
  have hfit:(Mt.log n ((ds.drop lo).take N)).length=32:=(Mt.log_fit n hn2 _ _ (Nat.le_refl _) (fun d hd=>hTi.fits d (List.mem_of_mem_drop (List.mem_of_mem_take hd)))).1
  have hlen32:((Mt.log n ((ds.drop lo).take N)).map b8).length=32:=by simp[hfit]
  have HL:=hid hlen32
  have HT:=hid (Qa hT (Qa hw (Qa hb0 (Qa hb8 (Qa hN (Qa hTi.fits (Qa c0 c8)))))))
  have hN0:0<N:=by omega
  rw[← hN]
  clear hT hw hb0 hb8 hN hTi hfit hlen32
  go_enter Tryz.func182,Tryz.ntmps182
  go_upto_region 1 with fail
  refine Qe (Res w) (Res.new w) ?_
  clear c0 c8
  rintro w1 hr
  have c0:w1.cell? ⟨B0,0,none⟩=some (ptr b):=by rw[(HT.out.2.2.1.grown hr.bl).cell];rfl
  have c8:w1.cell? ⟨B8,0,none⟩=some (ZR B0 B8):=by rw[(HT.out.2.2.2.1.grown hr.bl).cell];rfl
  have HR:=hid hr
  clear hr
  go_upto_region 2 with fail
  go_cut [22] (fun s22 wx=>∃ q:Bool,s22= .bool q∧wx=w1∧((q=true∧(N &&& (N-1)=0∧lo % N=0))∨(q=false∧¬(N &&& (N-1)=0∧lo % N=0))))
  case first=>
   by_cases hp:N &&& (N-1)=0
   ·rw[hp] at hs3
    by_cases hal:lo % N=0
    ·have hmod:((lo:Int) % (N:Int))=0:=by omega
     have HD:=hid (Qa hp hal)
     clear hp hal
     go_wp2_with fail
     go_meet
     exact⟨_,rfl,rfl,.inl ⟨rfl,HD.out⟩⟩
    ·have hmod:(((lo:Int) % (N:Int)) == 0)=false:=by rw[beq_eq_false_iff_ne];omega
     have HD:=hid (show ¬(N &&& (N-1)=0∧lo % N=0) from fun h=>hal h.2)
     clear hp hal
     go_wp2_with fail
     go_meet
     exact⟨_,rfl,rfl,.inr ⟨rfl,HD.out⟩⟩
   ·have hnz:((((N &&& (N-1):Nat):Int)) == 0)=false:=by rw[beq_eq_false_iff_ne];omega
    have HD:=hid (show ¬(N &&& (N-1)=0∧lo % N=0) from fun h=>hp h.1)
    clear hp
    go_wp2_with fail
    go_meet
    exact⟨_,rfl,rfl,.inr ⟨rfl,HD.out⟩⟩
  case rest=>
   obtain⟨q,rfl,rfl,hqq⟩:=hcut
   rename World=>wc
   clear hs3 hs2
   rcases hqq with ⟨rfl,hq⟩|⟨rfl,hq⟩
   ·obtain⟨k,hk⟩:=Wp N hN0 hq.1
    have hcall:=Qbt b n lo k ds wc (HT.out.1.grown HR.out.bl) hn2 (by rw[← hk];exact Nat.dvd_of_mod_eq_zero hq.2) (by rw[← hk];have:=HT.out.2.2.2.2.1;omega) hds
    rw[← hk] at hcall
    have HC:=hid hcall
    clear hcall hk hq
    go_wp2_with (first
     |(go_at_call 183;refine HC.out.mono ?_;rintro e w2 ⟨rfl,hb⟩;have ht:=HR.out.there hb;have HB:=hid hb;clear hb)
     |((with_reducible refine Qv 40 (.tmp 6) (.tmp 26) w.heap.size 0 _ 32 HL.out ht (by kernel_rfl) (Qi _) ?_ ?_ ?_ ?_ ?_);rfl;rfl;rfl;rfl))
    exact QD w.heap.size 0 _ 32 _ HL.out (World.rangeAt_setCells_same _ _ _ _ (by rw[HL.out];exact ht)) Tryz.underlying40 rfl (by kernel_rfl) rfl rfl rfl ⟨rfl,Qc _ (Nat.le_refl _) _ _ _ (HR.out.below HB.out)⟩
   ·have hN2:2≤N:=by
     rcases Nat.lt_or_ge N 2 with h|h
     ·exfalso;apply hq
      obtain rfl:N=1:=by omega
      exact⟨rfl,Nat.mod_one _⟩
     ·exact h
    clear hq
    have hbp:=Mt.below_pos N
    have hbl:=Mt.below_lt N hN2
    obtain⟨K,hK⟩:∃ K,K=Mt.below N:=⟨_,rfl⟩
    rw[← hK] at hbp hbl
    have hHN:=HT.out.2.2.2.2.1
    have hNl:N<1099511627776:=by omega
    have hadd:IntKind.u64.wrap ((lo:Int)+(K:Int))=((lo+K:Nat):Int):=by rw[IntKind.wrap_u64];omega
    have hlog:Mt.log n ((ds.drop lo).take N)=Dg.node n (Mt.log n ((ds.drop lo).take K)) (Mt.log n ((ds.drop (lo+K)).take (hi-(lo+K)))):=by
     have hLl:((ds.drop lo).take N).length=N:=by simp;omega
     rw[Mt.log_two n _ (by rw[hLl];exact hN2),hLl,←hK,List.take_take,List.drop_take,List.drop_drop,Nat.min_eq_left (by omega),show hi-(lo+K)=N-K by omega]
    have hf1:∀ d∈(ds.drop lo).take K,d.length=32∧Dg.form n d=true:=fun d hd=>HT.out.2.2.2.2.2.1 d (List.mem_of_mem_drop (List.mem_of_mem_take hd))
    have hf2:∀ d∈(ds.drop (lo+K)).take (hi-(lo+K)),d.length=32∧Dg.form n d=true:=fun d hd=>HT.out.2.2.2.2.2.1 d (List.mem_of_mem_drop (List.mem_of_mem_take hd))
    have hfits:XZ n [Mt.log n ((ds.drop lo).take K),Mt.log n ((ds.drop (lo+K)).take (hi-(lo+K)))]:=by
     intro d hd
     rcases List.mem_cons.1 hd with rfl|hd
     ·exact Mt.log_fit n hn2 _ _ (Nat.le_refl _) hf1
     ·rw[List.mem_singleton] at hd;subst hd
      exact Mt.log_fit n hn2 _ _ (Nat.le_refl _) hf2
    have HG:=hid (Qa hlog (Qa hfits hK))
    clear hlog hfits hK hf1 hf2 hHN
    go_upto_region 5 with (go_at_call 184;refine (Qbq N hN2 (by omega) _).mono ?_;rw[← HG.out.2.2];rintro e w2 ⟨rfl,rfl⟩)
    have q0:=Fut.cell c0
    have q8:=Fut.cell c8
    have hT0:=HT.out.1.grown HR.out.bl
    have qb:wc.cell? ⟨b,0,none⟩=some (.int .i64 n):=by obtain⟨A,c,bs,ts,hTi⟩:=hT0.is;rw[hTi.blk.cell];rfl
    have qT:∀ s:Fut wc,QT s.v b n ds:=fun s=>hT0.grown s.below
    have qW:=(HR.out.words HT.out.2.1).fut
    have q0b:∀ s:Fut wc,Blk s.v B0 97 [ptr b]:=fun s=>(HT.out.2.2.1.grown HR.out.bl).grown s.below
    have q8b:∀ s:Fut wc,Blk s.v B8 253 [ZR B0 B8]:=fun s=>(HT.out.2.2.2.1.grown HR.out.bl).grown s.below
    have qbb:=Fut.cell qb
    have HF:=hid (Qa qT (Qa qW (Qa q0b (Qa q8b qbb))))
    clear qT qW q0b q8b qbb qb hT0
    have elk:((lo:Int)+(K:Int))=((lo+K:Nat):Int):=by push_cast;rfl
    have qc1:∀ s:Fut wc,Calls Tryz.prog 182 #[.int .u64 lo,.int .u64 ((lo:Int)+(K:Int)),ptr B0,ptr B8] s.v fun e w''=>e= .returned (dg (Mt.log n ((ds.drop lo).take K)))∧∃ s':Fut wc,w''=s'.v:=fun s=>Calls.fut_of (by
     have hHN:=HT.out.2.2.2.2.1
     have:=ih lo (lo+K) _ (by omega) (by omega) (by omega) (HF.out.1 s) (HF.out.2.1 s) (HF.out.2.2.1 s) (HF.out.2.2.2.1 s)
     rw[Nat.add_sub_cancel_left] at this
     rw[elk];exact this)
    have qc2:∀ s:Fut wc,Calls Tryz.prog 182 #[.int .u64 ((lo:Int)+(K:Int)),.int .u64 hi,ptr B0,ptr B8] s.v fun e w''=>e= .returned (dg (Mt.log n ((ds.drop (lo+K)).take (hi-(lo+K)))))∧∃ s':Fut wc,w''=s'.v:=fun s=>Calls.fut_of (by
     have hHN:=HT.out.2.2.2.2.1
     rw[elk];exact ih (lo+K) hi _ (by omega) (by omega) (by omega) (HF.out.1 s) (HF.out.2.1 s) (HF.out.2.2.1 s) (HF.out.2.2.2.1 s))
    have qc3:∀ s:Fut wc,Calls Tryz.prog 173 #[ptr b,dg (Mt.log n ((ds.drop lo).take K)),dg (Mt.log n ((ds.drop (lo+K)).take (hi-(lo+K))))] s.v fun e w''=>e= .returned (dg (Dg.node n (Mt.log n ((ds.drop lo).take K)) (Mt.log n ((ds.drop (lo+K)).take (hi-(lo+K))))))∧∃ s':Fut wc,w''=s'.v:=fun s=>Calls.fut_of (V9 b n hn1 hn2 _ _ _ (HF.out.2.2.2.2 s) HG.out.2.1 (HF.out.2.1 s))
    have HQ:=hid (Qa qc1 (Qa qc2 qc3))
    clear qc1 qc2 qc3 elk
    refine Qq 10 (by kernel_rfl) (by kernel_rfl) ?_
    dsimp only[List.take_succ_cons,List.take_zero,List.drop_succ_cons,List.drop_zero]
    repeat go_big_quiet_step (first
     |with_reducible exact HQ.out.1 _
     |with_reducible exact HQ.out.2.1 _
     |with_reducible exact HQ.out.2.2 _)
    refine wpQuiet_nil ?_
    rintro _ ⟨s,rfl⟩
    have ht:=HR.out.there s.below
    have hl2:=HL.out
    rw[HG.out.1] at hl2
    have HL2:=hid hl2
    clear hl2
    refine Qv 40 (.tmp 6) (.tmp 40) w.heap.size 0 _ 32 HL2.out ht (by kernel_rfl) (Qi _) rfl rfl rfl rfl ?_
    go_wp2_with fail
    exact QD w.heap.size 0 _ 32 _ HL2.out (World.rangeAt_setCells_same _ _ _ _ (by rw[HL2.out];exact ht)) Tryz.underlying40 rfl (by kernel_rfl) rfl rfl rfl ⟨by rw[HG.out.1],Qc _ (Nat.le_refl _) _ _ _ (HR.out.below s.below)⟩
theorem Qbu (w:World)(A C:Obj)(t:TypeId)(cs:List Value):Blk (((w.alloc A).alloc C).alloc (.cells cs.toArray t)) (w.heap.size+1+1) t cs:=by
 have h:=Blk.new ((w.alloc A).alloc C) t cs
 rwa [show ((w.alloc A).alloc C).heap.size=w.heap.size+1+1 by simp] at h
theorem YW (b n lo hi:Nat)(ds:List (List UInt8))(w:World)(h:QT w b n ds)(hn1:1≤n)(hn2:n≤32)(hl:lo<hi)(hh:hi≤ds.length)(hds:ds.length<1099511627776)(hw:Qs w):
 Calls Tryz.prog 131 #[ptr b,.int .u64 lo,.int .u64 hi] w fun e w'=>e= .returned (.tuple #[dg (Mt.log n ((ds.drop lo).take (hi-lo))),.int .i64 0])∧Below w.heap.size w w':=by
 obtain⟨A,c,bs,ts,hT⟩:=h.is
 have c1:w.cell? ⟨b,1,none⟩=some (.int .u64 ds.length):=by rw[hT.blk.cell];rfl
 have hb:=hT.blk.lt
 have hfit:(Mt.log n ((ds.drop lo).take (hi-lo))).length=32:=(Mt.log_fit n hn2 _ _ (Nat.le_refl _) (fun d hd=>hT.fits d (List.mem_of_mem_drop (List.mem_of_mem_take hd)))).1
 have HL:=hid (show ((Mt.log n ((ds.drop lo).take (hi-lo))).map b8).length=32 by simp[hfit])
 have HT:=hid h
 clear h hT hfit
 have i1:¬(hi:Int)< (lo:Int):=by omega
 have i2:¬(ds.length:Int)< (hi:Int):=by omega
 have i3:((lo:Int) == (hi:Int))=false:=by rw[beq_eq_false_iff_ne];omega
 go_enter Tryz.func131,Tryz.ntmps131
 go_upto_region 8 with fail
 have hr1:=ZH w (.cells #[ptr b] 97) (.cells #[.nilFunc] 253) 40 (List.replicate 32 (b8 0))
 have hr2:=Qbu w (.cells #[ptr b] 97) (.cells (List.replicate 32 (b8 0)).toArray 40) 253 [.nilFunc]
 refine Qe (fun w'=>Blk w' w.heap.size 97 [ptr b]∧Blk w' (w.heap.size+1) 40 (List.replicate 32 (b8 0))∧Blk w' (w.heap.size+1+1) 253 [.nilFunc]∧Below w.heap.size w w') ⟨((Blk.new w 97 [ptr b]).alloc _).alloc _,hr1,hr2,(((Below.refl _ _).alloc (Nat.le_refl _) _).alloc (by simp) _).alloc (by simp;omega) _⟩ ?_
 clear hr1 hr2 c1
 rintro w1 ⟨h1,h2,h3,h4⟩
 have c3:w1.cell? ⟨w.heap.size+1+1,0,none⟩=some .nilFunc:=by rw[h3.cell];rfl
 have f3:=h3.frozen 0
 have k2:Below w.heap.size w (w1.setCell ⟨w.heap.size+1+1,0,none⟩ (ZR w.heap.size (w.heap.size+1+1))):=h4.setCell (by simp;omega) _
 have k3:Blk (w1.setCell ⟨w.heap.size+1+1,0,none⟩ (ZR w.heap.size (w.heap.size+1+1))) (w.heap.size+1+1) 253 [ZR w.heap.size (w.heap.size+1+1)]:=h3.set_ 0 _
 have k1:Blk (w1.setCell ⟨w.heap.size+1+1,0,none⟩ (ZR w.heap.size (w.heap.size+1+1))) w.heap.size 97 [ptr b]:=h1.far (by simp;omega) _
 have k0:Blk (w1.setCell ⟨w.heap.size+1+1,0,none⟩ (ZR w.heap.size (w.heap.size+1+1))) (w.heap.size+1) 40 (List.replicate 32 (b8 0)):=h2.far (by simp) _
 have hcall:=Wq w.heap.size (w.heap.size+1+1) b n hn1 hn2 ds hds (hi-lo) lo hi _ (Nat.le_refl _) hl hh (HT.out.grown k2) (hw.below k2) k1 k3
 have HC:=hid (Qa hcall (Qa k2 k0))
 clear hcall k2 k3 k1 k0 h1 h2 h3 h4
 go_wp2_with (first
  |(go_at_call 182;refine HC.out.1.mono ?_;rintro e w2 ⟨rfl,hb2⟩;have ht:=(HC.out.2.2.grown hb2).there 0 32 (by simp);have HB:=hid hb2;clear hb2)
  |((with_reducible refine Qv 40 (.tmp 6) (.tmp 41) (w.heap.size+1) 0 _ 32 HL.out ht (by kernel_rfl) (Qi _) ?_ ?_ ?_ ?_ ?_);rfl;rfl;rfl;rfl))
 exact Q9 (w.heap.size+1) 0 _ 32 _ HL.out (World.rangeAt_setCells_same _ _ _ _ (by rw[HL.out];exact ht)) Tryz.underlying40 rfl (by kernel_rfl) rfl rfl rfl ⟨rfl,Qc _ (by omega) _ _ _ (gro HC.out.2.1 HB.out)⟩
theorem Ws (b n lo:Nat)(ds:List (List UInt8))(w:World)(h:QT w b n ds)(hn1:1≤n)(hn2:n≤32)(hh:lo≤ds.length)(hds:ds.length<1099511627776)(hw:Qs w):
 Calls Tryz.prog 131 #[ptr b,.int .u64 lo,.int .u64 lo] w fun e w'=>e= .returned (.tuple #[dg (Mt.log n []),.int .i64 0])∧Below w.heap.size w w':=by
 obtain⟨A,c,bs,ts,hT⟩:=h.is
 have c1:w.cell? ⟨b,1,none⟩=some (.int .u64 ds.length):=by rw[hT.blk.cell];rfl
 have c0:w.cell? ⟨b,0,none⟩=some (.int .i64 n):=by rw[hT.blk.cell];rfl
 have hb:=hT.blk.lt
 have HL:=hid (show ((Dg.noLog n).map b8).length=32 by have:=Dg.sum_length n [] hn2;unfold Dg.noLog;simp[this])
 clear h hT
 rw[Mt.log_nil]
 have i1:¬(lo:Int)< (lo:Int):=by omega
 have i2:¬(ds.length:Int)< (lo:Int):=by omega
 go_enter Tryz.func131,Tryz.ntmps131
 go_upto_region 1 with fail
 have hr1:=Blk.new (w.alloc (.cells #[ptr b] 97)) 40 (List.replicate 32 (b8 0))
 rw[show (w.alloc (.cells #[ptr b] 97)).heap.size=w.heap.size+1 by simp] at hr1
 refine Qe (fun w'=>Blk w' w.heap.size 97 [ptr b]∧Blk w' (w.heap.size+1) 40 (List.replicate 32 (b8 0))∧Below w.heap.size w w') ⟨(Blk.new w 97 [ptr b]).alloc _,hr1,((Below.refl _ _).alloc (Nat.le_refl _) _).alloc (by simp) _⟩ ?_
 clear hr1
 rintro w1 ⟨h1,h2,h4⟩
 have d0:w1.cell? ⟨w.heap.size,0,none⟩=some (ptr b):=by rw[h1.cell];rfl
 have d1:w1.cell? ⟨b,1,none⟩=some (.int .u64 ds.length):=by rw[h4.cell (p:=⟨b,1,none⟩) hb];exact c1
 have d2:w1.cell? ⟨b,0,none⟩=some (.int .i64 n):=by rw[h4.cell (p:=⟨b,0,none⟩) hb];exact c0
 have HC:=hid (Qa h2 h4)
 clear c1 c0 h1 h2 h4
 go_wp2_with (first
  |(go_at_call 181;refine (Qbf n hn1 hn2 _ (hw.below HC.out.2)).mono ?_;rintro e w2 ⟨rfl,hb2⟩;have ht:=(HC.out.1.grown hb2).there 0 32 (by simp);have HB:=hid hb2;clear hb2)
  |((with_reducible refine Qv 40 (.tmp 6) (.tmp 35) (w.heap.size+1) 0 _ 32 HL.out ht (by kernel_rfl) (Qi _) ?_ ?_ ?_ ?_ ?_);rfl;rfl;rfl;rfl))
 exact Q9 (w.heap.size+1) 0 _ 32 _ HL.out (World.rangeAt_setCells_same _ _ _ _ (by rw[HL.out];exact ht)) Tryz.underlying40 rfl (by kernel_rfl) rfl rfl rfl ⟨rfl,Qc _ (by omega) _ _ _ (gro HC.out.2 HB.out)⟩
theorem Qbv (b n:Nat)(ds:List (List UInt8))(w:World)(h:QT w b n ds)(hn1:1≤n)(hn2:n≤32)(hds:ds.length<1099511627776)(hw:Qs w):
 Calls Tryz.prog 105 #[ptr b,.int .u64 ds.length] w fun e w'=>e= .returned (.tuple #[dg (Mt.log n ds),.int .i64 0])∧Below w.heap.size w w':=by
 obtain⟨A,c,bs,ts,hT⟩:=h.is
 have hfit:=(Mt.log_fit n hn2 _ _ (Nat.le_refl _) hT.fits).1
 have HL:=hid (show ((Mt.log n ds).map b8).length=32 by simp[hfit])
 have hall:∀ w1,Below w.heap.size w w1→Calls Tryz.prog 131 #[ptr b,.int .u64 0,.int .u64 ds.length] w1 fun e w'=>e= .returned (.tuple #[dg (Mt.log n ds),.int .i64 0])∧Below w1.heap.size w1 w':=by
  intro w1 hb
  rcases Nat.eq_zero_or_pos ds.length with h0|h0
  ·have:=Ws b n 0 ds w1 (h.grown hb) hn1 hn2 (Nat.zero_le _) hds (hw.below hb)
   rw[List.eq_nil_of_length_eq_zero h0];exact this
  ·have:=YW b n 0 ds.length ds w1 (h.grown hb) hn1 hn2 h0 (Nat.le_refl _) hds (hw.below hb)
   rw[List.drop_zero,Nat.sub_zero,List.take_length] at this
   exact this
 have HA:=hid hall
 clear hall hfit hT h
 go_enter Tryz.func105,Tryz.ntmps105
 go_upto_region 1 with fail
 refine Qe (Res w) (Res.new w) ?_
 rintro w1 hr
 have HR:=hid hr
 clear hr
 go_wp2_with (first
  |(go_at_call 131;refine (HA.out w1 HR.out.bl).mono ?_;rintro e w2 ⟨rfl,hb⟩;have ht:=HR.out.there hb;have HB:=hid hb;clear hb)
  |((with_reducible refine Qv 40 (.tmp 4) (.tmp 9) w.heap.size 0 _ 32 HL.out ht (by kernel_rfl) (Qi _) ?_ ?_ ?_ ?_ ?_);rfl;rfl;rfl;rfl))
 exact Zl HL.out ht (HR.out.below HB.out) rfl rfl rfl rfl (fun _ h=>⟨rfl,h⟩)
theorem QE (place:Nat→Option (Nat×Nat))(cells:List Value)(i:Nat)(v:Value)(rest:List (Nat×Value))(off size:Nat)(hp:place i=some (off,size))(cs:List Value)(hv:v.cells=cs.toArray)(hs:cs.length=size)(hfit:off+size≤cells.length):
 Instr.fill place cells.toArray ((i,v) :: rest)=Instr.fill place (splice cells off cs).toArray rest:=by
 obtain⟨g1,g2⟩:=Great.foldl_set off cs 0 cells.toArray
 have e:(cs.zipIdx 0).foldl (fun c (x:Value×Nat)=>c.setIfInBounds (off+x.2) x.1) cells.toArray=(splice cells off cs).toArray:=by
  apply Array.ext_getElem?
  intro k
  rw[g2 k,List.getElem?_toArray,List.getElem?_toArray,Xm _ _ _ (by omega)]
  simp only[Nat.add_zero,List.size_toArray]
  by_cases h1:k<off
  ·rw[if_neg (by omega),if_pos h1]
  ·rw[if_neg h1]
   by_cases h2:k<off+cs.length
   ·rw[if_pos ⟨by omega,h2,by omega⟩,if_pos h2]
   ·rw[if_neg (by omega),if_neg h2]
 rw[← e]
 conv=>lhs;unfold Instr.fill
 simp only[hp,hv,List.size_toArray,hs]
 rw[if_neg (by simp;omega)]
 congr 1
 rw[← Array.foldl_toList]
 simp
section
variable {P:Program} {C:World→Prop}
theorem Ua {o:Oper}{a:Act}{K:Act→Prop}(t:TypeId)(parts:Array (Nat×Operand))(cells:List Value)(ho:o.op= .build t parts)(hb:P.built t (parts.toList.map fun x=>(x.1,a.eval x.2))=some cells.toArray)(hk:K (a.put o.dst (.agg cells.toArray))):o.quiet P a C K:=
 ⟨_,fun w hw=>by
   have:=run_build (P:=P) w t (parts.map fun (i,x)=>(i,a.eval x)) cells.toArray (by rw[Array.toList_map];exact hb)
   unfold Oper.quietAt execOp
   simp only[ho,Sem.run_bind,this,Result.andThen_ok]
   exact⟨rfl,rfl⟩,hk⟩
theorem Za {ops:Array Oper}{rest:List Oper}{o:Oper}{a:Act}{w:World}{Q:Exit→Act→World→Prop}(t:TypeId)(parts:Array (Nat×Operand))(cells:List Value)(hg:o.guard=none)(ho:o.op= .build t parts)(hb:P.built t (parts.toList.map fun x=>(x.1,a.eval x.2))=some cells.toArray)
 (h:wpList P ops Q rest (a.put o.dst (.agg cells.toArray)) w):wpList P ops Q (o :: rest) a w:=by
 refine wpList_plain hg fun K hK=>?_
 have:=run_build (P:=P) w t (parts.map fun (i,x)=>(i,a.eval x)) cells.toArray (by rw[Array.toList_map];exact hb)
 unfold Oper.wp execOp
 simp only[ho,Sem.run_bind,this,Result.andThen_ok]
 exact hK _ _ h
end
theorem YX (parts:List (Nat×Value)):Tryz.prog.built 243 parts=Instr.fill ((#[(0,32),(32,1),(33,1),(34,1)]:Array (Nat×Nat))[·]?) (List.replicate 32 (b8 0)++[Value.pointer none,Value.pointer none,Value.int .u64 0]).toArray parts:=by kernel_rfl
theorem Q6 (D X Y:List Value)(h:X.length=D.length):splice (X++Y) 0 D=D++Y:=by simp[splice,←h]
theorem QM (D X Y:List Value)(o:Nat)(h:D.length≤o):splice (D++X) o Y=D++splice X (o-D.length) Y:=by
 unfold splice
 rw[List.take_append,List.take_of_length_le (by omega),List.drop_append,List.drop_eq_nil_of_le (show D.length≤o+Y.length by omega),List.nil_append,List.append_assoc,show o+Y.length-D.length=o-D.length+Y.length by omega]
theorem Ub (d:List UInt8)(hd:d.length=32):Tryz.prog.built 243 [(0,dg d),(3,.int .u64 1)]=some (QR d (.pointer none) (.pointer none) 1).toArray:=by
 have hD:(d.map b8).length=32:=by simp[hd]
 rw[YX,QE _ _ 0 _ _ 0 32 rfl (d.map b8) rfl hD (by simp),Q6 _ _ _ (by rw[hD];simp),QE _ _ 3 _ _ 34 1 rfl [.int .u64 1] rfl rfl (by simp[hd]),QM _ _ _ _ (by omega),hD]
 rfl
theorem Uc (d:List UInt8)(hd:d.length=32)(l r:Nat)(s:Nat):Tryz.prog.built 243 [(0,dg d),(1,ptr l),(2,ptr r),(3,.int .u64 s)]=some (QR d (ptr l) (ptr r) s).toArray:=by
 have hD:(d.map b8).length=32:=by simp[hd]
 rw[YX,QE _ _ 0 _ _ 0 32 rfl (d.map b8) rfl hD (by simp),Q6 _ _ _ (by rw[hD];simp),
  QE _ _ 1 _ _ 32 1 rfl [ptr l] rfl rfl (by simp[hd]),QM _ _ _ _ (by omega),hD,
  QE _ _ 2 _ _ 33 1 rfl [ptr r] rfl rfl (by simp[hd,splice]),QM _ _ _ _ (by omega),hD,
  QE _ _ 3 _ _ 34 1 rfl [.int .u64 s] rfl rfl (by simp[hd,splice]),QM _ _ _ _ (by omega),hD]
 rfl
structure TrO (B b n:Nat) (w:World) (sz:Nat) (bs:List Nat) (ts:List MT) (v:Value):Prop where
 blk:Blk w b 180 [.int .i64 n,.int .u64 sz,v]
 own:w.ownsRow B 196 1 v bs.length (bs.map ptr)
 nodes:XE w bs ts
 hB:B≤b
theorem YY:(Tryz.prog.info? 196).map (fun i=>(i.zero,i.size,i.bytes))=some (some (.pointer none),1,8):=by kernel_rfl
theorem Qaq {nb:Nat}:∀ u∈[ptr nb],u.oneCell'=true:=by intro u hu;rw[List.mem_singleton] at hu;subst hu;rfl
theorem TrO.grown {B b n sz:Nat}{w w':World}{bs:List Nat}{ts:List MT}{v:Value}(h:TrO B b n w sz bs ts v)(hb:Below w.heap.size w w'):TrO B b n w' sz bs ts v:=
 ⟨h.blk.grown hb,Qg h.own hb,h.nodes.stay (Xj.of_grown hb),h.hB⟩
theorem Qdg {w:World}{B:Nat}{e:TypeId}{v:Value}{n:Nat}{xs:List Value}(h:w.ownsRow B e 1 v n xs)(k:Nat)(hk:k<n):∃ g cap,v= .slice (some ⟨g,0,none⟩) n cap∧n≤cap∧w.rangeAt g 0 xs∧w.ownsRow B e 1 (.slice (some ⟨g,0,none⟩) k cap) k (xs.take k):=by
 obtain⟨A,c,hv,hr,hc⟩:=QC h
 rcases h.2 with ⟨_,h0⟩|⟨g,cap,cur,hv2,hB,hh,hn,hm,hs,ht⟩
 ·omega
 ·have hne:xs≠[]:=fun e=>by have:=h.1;rw[e] at this;simp at this;omega
  obtain⟨g2,o2,hA,hrr⟩:=hr hne
  rw[hv2] at hv
  injection hv with hv1 _ hv3
  rw[hA] at hv1
  cases hv1
  refine⟨g,cap,hv2,hn,hrr,by rw[List.length_take,h.1];omega,.inr ⟨g,cap,cur,rfl,hB,hh,by omega,hm,hs,?_⟩⟩
  rw[← ht,List.take_take,Nat.mul_one,Nat.mul_one,Nat.min_eq_left (by omega)]
theorem XE.take {w:World}{bs:List Nat}{ts:List MT}(h:XE w bs ts)(k:Nat):XE w (bs.take k) (ts.take k):=
 ⟨by rw[List.length_take,List.length_take,h.len],fun i b t h1 h2=>by
   rw[List.getElem?_take] at h1 h2
   split at h1
   ·rename_i hi;rw[if_pos hi] at h2;exact h.at_ i b t h1 h2
   ·cases h1⟩
theorem XE.snoc {w:World}{bs:List Nat}{ts:List MT}{nb:Nat}{x:MT}(h:XE w bs ts)(hn:Xb w nb x):XE w (bs++[nb]) (ts++[x]):=
 ⟨by simp[h.len],fun i b t h1 h2=>by
   have hl:=h.len
   rcases Nat.lt_or_ge i bs.length with hi|hi
   ·rw[List.getElem?_append_left hi] at h1
    rw[List.getElem?_append_left (by omega)] at h2
    exact h.at_ i b t h1 h2
   ·rw[List.getElem?_append_right hi] at h1
    rw[List.getElem?_append_right (by omega)] at h2
    rcases Nat.eq_zero_or_pos (i-bs.length) with h0|h0
    ·rw[h0] at h1
     rw[show i-ts.length=0 by omega] at h2
     simp at h1 h2;subst h1;subst h2;exact hn
    ·rw[List.getElem?_eq_none (by simp;omega)] at h1;cases h1⟩
theorem TrO.end_ {B b n sz nb:Nat}{x:MT}{w w9 w10:World}{bs:List Nat}{ts:List MT}{V v2:Value}{o:Obj}(h:TrO B b n w9 sz bs ts V)(hn:Xb w9 nb x)(hb:Below B w w9)(hB:B≤w9.heap.size)
 (hown:w10.ownsRow B 196 1 v2 (bs.length+1) (bs.map ptr++[ptr nb])) (hg:(w9.alloc o).grownBy w10 V.ownBlock) (hat:v2.ownBlock=V.ownBlock∨v2.ownBlock=some (w9.alloc o).heap.size) (hbk:Blk w10 b 180 [.int .i64 n,.int .u64 sz,V]):
 Below B w ((w10.setCell ⟨b,2,none⟩ v2).setCell ⟨b,1,none⟩ (.int .u64 ((sz:Int)+1)))∧TrO B b n ((w10.setCell ⟨b,2,none⟩ v2).setCell ⟨b,1,none⟩ (.int .u64 ((sz:Int)+1))) (sz+1) (bs++[nb]) (ts++[x]) v2:=by
 have hbx:=Qb w9 o
 have hk:=Qn hg
 have hk2:Qu (· =b) w10 ((w10.setCell ⟨b,2,none⟩ v2).setCell ⟨b,1,none⟩ (.int .u64 ((sz:Int)+1))):=((Qu.refl _ _).set1 2 _).set1 1 _
 have hblt:=h.blk.lt
 have hst1:Xj w9 w10:=fun k cs hc=>hk.blk (hc.grown hbx) (fun e=>Xz h.own hc (by decide) e)
 have hst:Xj w9 ((w10.setCell ⟨b,2,none⟩ v2).setCell ⟨b,1,none⟩ (.int .u64 ((sz:Int)+1))):=fun k cs hc=>XR hk2 hbk (by decide) k cs (hst1 k cs hc)
 refine⟨?_,?_,?_,?_,h.hB⟩
 ·have b1:Below B w (w9.alloc o):=hb.trans (hbx.mono hB)
  have b2:Below B w w10:=hk.step b1 (Nat.le_trans hB hbx.size) (fun k hkB e=>by have:=(h.own.lt k e).1;omega)
  exact hk2.step b2 (Nat.le_trans (Nat.le_trans hB hbx.size) hk.size) (fun k hkB e=>by have:=h.hB;have e':k=b:=e;omega)
 ·exact (hbk.set_ 2 v2).set_ 1 _
 ·have:=XM (S:=(· =b)) hown hk2 (fun k hkv e=>by
   have e':k=b:=e
   subst e'
   rcases hat with h1|h1
   ·exact Xz h.own h.blk (by decide) (h1▸hkv)
   ·rw[h1] at hkv
    have:=Option.some.inj hkv
    have:=hbx.size
    omega)
  rw[List.length_append,List.map_append]
  exact this
 ·exact (h.nodes.stay hst).snoc (hn.stay hst)
theorem TrO.shrink {B b n sz g cap:Nat}{w w5:World}{bs:List Nat}{ts:List MT}{V:Value}{k:Nat}(h:TrO B b n w sz bs ts V)(hk5:Qu (· =b) w w5)(hb5:Blk w5 b 180 [.int .i64 n,.int .u64 sz,.slice (some ⟨g,0,none⟩) k cap])(hkl:k≤bs.length)
 (ho:w.ownsRow B 196 1 (.slice (some ⟨g,0,none⟩) k cap) k ((bs.map ptr).take k)):TrO B b n w5 sz (bs.take k) (ts.take k) (.slice (some ⟨g,0,none⟩) k cap):=by
 have hl:(bs.take k).length=k:=by rw[List.length_take];omega
 refine⟨hb5,?_,(h.nodes.stay (XR hk5 h.blk (by decide))).take k,h.hB⟩
 rw[hl,List.map_take]
 exact XM (S:=(· =b)) ho hk5 (fun j hj e=>by have e':j=b:=e;subst e';exact Xz ho h.blk (by decide) hj)
theorem Qs.low {B:Nat}{w w':World}(h:Qs w)(hb:Below B w w')(hB:0<B):Qs w':=⟨fun i hi=>(hb.cell (p:=⟨_,i,none⟩) hB).trans (h.1 i hi),Nat.lt_of_lt_of_le h.2 hb.size⟩
theorem Vw {α:Type}{ts:List α}{r:α}(hr:ts[ts.length-1]?=some r):ts=ts.take (ts.length-1)++[r]:=by
 have hl:=(List.getElem?_eq_some_iff.1 hr).1
 have:=List.take_succ_eq_append_getElem hl
 rw[(List.getElem?_eq_some_iff.1 hr).2,show ts.length-1+1=ts.length by omega,List.take_length] at this
 exact this
theorem Qbw {n:Nat}{ts:List MT}{r x:MT}(hr:ts[ts.length-1]?=some r)(h:r.ht≠x.ht):(Z8 n ts.reverse x).reverse=ts++[x]:=by
 have e:=Vw hr
 have e2:ts.reverse=r :: (ts.take (ts.length-1)).reverse:=by
  have:=congrArg List.reverse e
  rw[List.reverse_append] at this
  exact this
 rw[e2,Z8,if_neg h,List.reverse_cons,←e2,List.reverse_reverse]
theorem Qfq {n:Nat}{ts:List MT}{r x:MT}(hr:ts[ts.length-1]?=some r)(h:r.ht=x.ht):Z8 n ts.reverse x=Z8 n (ts.take (ts.length-1)).reverse (.node (Dg.node n r.dig x.dig) r x):=by
 have e:=Vw hr
 have e2:ts.reverse=r :: (ts.take (ts.length-1)).reverse:=by
  have:=congrArg List.reverse e
  rw[List.reverse_append] at this
  exact this
 rw[e2,Z8,if_pos h]
theorem Qar {r x:MT}:r.size=x.size↔r.ht=x.ht:=⟨fun h=>(Nat.pow_right_inj (by decide)).1 h,fun h=>by unfold MT.size;rw[h]⟩
theorem Qdh (B b n sz:Nat)(hn1:1≤n)(hn2:n≤32)(bs:List Nat)(ts:List MT)(v:Value)(ds:List (List UInt8))(d:List UInt8)(w:World)(h:TrO B b n w sz bs ts v)(hw:Qs w)(hBw:B≤w.heap.size)(hd:d.length=32)(hdf:Dg.form n d=true)
 (hp:Q0 n ts) (hl:Qj ts=ds) (hf:XZ n ds) (hsz:sz<1099511627776) (hts:ts.length<1099511627776) (hdsl:ds.length<1099511627776) (hWB:0<B):
 Calls Tryz.prog 121 #[ptr b,dg d] w fun e w'=>e= .returned (.tuple #[])∧Below B w w'∧∃ bs' v',TrO B b n w' (sz+1) bs' (Z8 n ts.reverse (.leaf d)).reverse v':=by
 have hdl:(d.map b8).length=32:=by simp[hd]
 have hnb:=Ub d hd
 have hbx:=Blk.new w 40 (d.map b8)
 have HD:=hid (Qa hdl hnb)
 have HT:=hid (Qa h (Qa hp (Qa hl (Qa hf hdf))))
 clear h hp hl hf hdl hnb hdf
 go_enter Tryz.func121,Tryz.ntmps121
 go_upto_region 1 with fail
 refine Qe (fun w'=>Blk w' w.heap.size 40 (d.map b8)∧Below w.heap.size w w') ⟨hbx,Qb _ _⟩ ?_
 clear hbx
 rintro w1 ⟨hb1,hbl1⟩
 have hr1:=hb1.whole
 have HB:=hid (Qa hb1 hbl1)
 clear hb1 hbl1
 go_wp2_with (first
  |((with_reducible refine Qf 40 (.tmp 3) w.heap.size 0 _ 32 _ HD.out.1 hr1 Tryz.underlying40 rfl (by kernel_rfl) ?_ ?_ ?_ ?_);rfl;rfl;rfl)
  |((with_reducible refine Za 243 #[(0,.tmp 6),(3,.const (.int .u64 1))] (QR d (.pointer none) (.pointer none) 1) ?_ ?_ ?_ ?_);rfl;rfl;exact HD.out.2))
 have hnode:Xb (w1.alloc (.cells (QR d (.pointer none) (.pointer none) 1).toArray 243)) w1.heap.size (.leaf d):=⟨hd,Blk.new _ _ _⟩
 have hbl2:Below w.heap.size w (w1.alloc (.cells (QR d (.pointer none) (.pointer none) 1).toArray 243)):=gro HB.out.2 (Qb _ _)
 have HN:=hid (Qa hnode (Qa (HT.out.1.grown hbl2) (hbl2.mono hBw)))
 have hall:Qj ts++(MT.leaf d).leaves=ds++[d]:=by rw[HT.out.2.2.1];rfl
 have HA:=hid hall
 have hfall:∀ e∈ds++[d],e.length=32∧Dg.form n e=true:=by
  intro e he
  rcases List.mem_append.1 he with he|he
  ·exact HT.out.2.2.2.1 e he
  ·rw[List.mem_singleton] at he;subst he;exact⟨hd,HT.out.2.2.2.2⟩
 have hdsl:ds.length<1099511627776→True:=fun _=>trivial
 have HFA:=hid hfall
 clear hnode hbl2 hr1 hall hfall hdsl
 go_loopg [4] ts.length (fun g s4 wr=>∃ (bs':List Nat) (ts':List MT) (v':Value) (nb:Nat) (x:MT),g=ts'.length∧s4=ptr nb∧Xb wr nb x∧x.ok n∧TrO B b n wr sz bs' ts' v'∧Q0 n ts'∧Z8 n ts.reverse (.leaf d)=Z8 n ts'.reverse x∧Below B w wr∧Qj ts'++x.leaves=ds++[d]∧ts'.length≤ts.length)
 case atStart=>exact⟨bs,ts,v,w1.heap.size,.leaf d,rfl,rfl,HN.out.1,trivial,HN.out.2.1,HT.out.2.1,rfl,HN.out.2.2,HA.out,Nat.le_refl _⟩
 case round=>
  clear HN HA HB
  obtain⟨bs',ts',v',nb,x,hg,rfl,hna,hxo,htr,hpk,hpu,hbw,hlv,htl⟩:=hrel
  have hlen:=htr.nodes.len
  have hfz:=htr.blk.frozen 2
  have c2:wr.cell? ⟨b,2,none⟩=some v':=by rw[htr.blk.cell];rfl
  have c1:wr.cell? ⟨b,1,none⟩=some (.int .u64 sz):=by rw[htr.blk.cell];rfl
  have c0:wr.cell? ⟨b,0,none⟩=some (.int .i64 n):=by rw[htr.blk.cell];rfl
  obtain⟨hxd,xl,xr,hxb⟩:=hna.cells
  have n34:wr.cell? ⟨nb,34,none⟩=some (.int .u64 x.size):=by rw[hxb.cell];unfold QR;rw[List.getElem?_append_right (by simp[hxd])];simp[hxd]
  have HQ:=hid (Qa hna (Qa hxo (Qa htr (Qa hpk (Qa hpu (Qa hbw (Qa hlv (Qa hxb hxd))))))))
  clear hna hxo htr hpk hpu hbw hlv hxb hxd
  rcases Nat.eq_zero_or_pos ts'.length with h0|h0
  ·obtain⟨A,c,hv,hrd,hc⟩:=QC HQ.out.2.2.1.own
   rw[hlen,h0] at hv
   subst hv
   have i0:ts'.length=0:=h0
   go_upto_region 2 with fail
   go_quiet (fail)
   have h63:bs'.length+1≤maxLen:=by unfold maxLen;omega
   have hby:(bs'.length+1)*8≤140737488355328:=by omega
   have hpf:(Z8 n ts'.reverse x).reverse=ts'++[x]:=by rw[List.eq_nil_of_length_eq_zero h0];rfl
   have HPF:=hid hpf
   clear hpf
   have hdr:Below wr.heap.size wr (wr.drewN nq):=Q5 (Below.refl _ _) nq
   go_upto_region 6 with fail
   refine Qe (fun w'=>TrO B b n w' sz bs' ts' (.slice A 0 c)∧Xb w' nb x∧Below B w w') ⟨HQ.out.2.2.1.grown hdr,HQ.out.1.grown hdr,HQ.out.2.2.2.2.2.1.trans (Q5 (Below.refl _ _) nq)⟩ ?_
   clear c2 c1 c0 n34 hfz hdr
   rintro w9 ⟨ht9,hn9,hb9⟩
   have hbx:=Qb w9 (.cells #[ptr nb] 196)
   have d2:(w9.alloc (.cells #[ptr nb] 196)).cell? ⟨b,2,none⟩=some (.slice A 0 c):=by rw[(ht9.blk.grown hbx).cell];rfl
   have e2:w9.cell? ⟨b,2,none⟩=some (.slice A 0 c):=by rw[ht9.blk.cell];rfl
   have hne:(.slice A 0 c:Value).ownBlock≠some b:=Xz ht9.own ht9.blk (by decide)
   have hrd:Rd (w9.alloc (.cells #[ptr nb] 196)) (some ⟨w9.heap.size,0,none⟩) [ptr nb]:=Vq w9 _ _
   have hbs:B≤(w9.alloc (.cells #[ptr nb] 196)).heap.size:=by have:=hb9.size;simp;omega
   have H9:=hid (Qa ht9 (Qa hn9 (Qa hb9 (Qa (Qg ht9.own hbx) (Qa hne hrd)))))
   clear ht9 hn9 hb9 hbx hne hrd
   go_wp2_with (
    ((with_reducible refine Q1 (.tmp 86) (.tmp 88) 178 Tryz.underlying178 YY rfl (by decide) H9.out.2.2.2.1 1 1 rfl H9.out.2.2.2.2.2 Qaq h63 hby hbs ?_ ?_ ?_ ?_ ?_);rfl;rfl;rfl;rfl
     intro v2 w10 hown2 hg2 hat2 _
     have hk10:=Qn hg2
     have hbk10:Blk w10 b 180 [.int .i64 n,.int .u64 sz,.slice A 0 c]:=hk10.blk (H9.out.1.blk.grown (Qb w9 _)) H9.out.2.2.2.2.1
     have f10:=hbk10.frozen 2
     have c10:w10.cell? ⟨b,2,none⟩=some (.slice A 0 c):=(by rw[hbk10.cell];rfl)
     have f11:=hbk10.frozen 1
     have c11:w10.cell? ⟨b,1,none⟩=some (.int .u64 sz):=(by rw[hbk10.cell];rfl)
     have H10:=hid (Qa hown2 (Qa hg2 (Qa hat2 (Qa hk10 hbk10))))
     clear hown2 hg2 hat2 hk10 hbk10
     obtain⟨A2,c2',rfl,-,-⟩:=QC H10.out.1))
   go_end0
   have hend:=TrO.end_ H9.out.1 H9.out.2.1 H9.out.2.2.1 (Nat.le_trans hBw H9.out.2.2.1.size) H10.out.1 H10.out.2.1 H10.out.2.2.1 H10.out.2.2.2.2
   rw[show bs'.length+1=1 by omega] at hend
   exact⟨rfl,hend.1,bs'++[nb],_,by rw[HQ.out.2.2.2.2.1,HPF.out];exact hend.2⟩
  ·obtain⟨g,cap,hv,hcap,hrr,hot⟩:=Qdg HQ.out.2.2.1.own (bs'.length-1) (by omega)
   subst hv
   have hkl:bs'.length-1<bs'.length:=by omega
   have hkt:bs'.length-1<ts'.length:=by omega
   obtain⟨rb,hrb⟩:∃ rb,bs'[bs'.length-1]?=some rb:=⟨bs'[bs'.length-1],by simp⟩
   obtain⟨r,hr⟩:∃ r,ts'[bs'.length-1]?=some r:=⟨ts'[bs'.length-1],by simp[hkt]⟩
   have hnr:=HQ.out.2.2.1.nodes.at_ _ _ _ hrb hr
   obtain⟨hrd,rl,rr,hrbk⟩:=hnr.cells
   have celt:wr.cell? ⟨g,bs'.length-1,none⟩=some (ptr rb):=by
    have:=hrr (bs'.length-1) (ptr rb) (by rw[List.getElem?_map,hrb];rfl)
    rwa [Nat.zero_add] at this
   have r34:wr.cell? ⟨rb,34,none⟩=some (.int .u64 r.size):=by rw[hrbk.cell];unfold QR;rw[List.getElem?_append_right (by simp[hrd])];simp[hrd]
   have HR:=hid (Qa hnr (Qa hrb (Qa hr (Qa hrr (Qa hot (Qa hrd hlen))))))
   clear hnr hrb hr hrr hot hrbk hrd hlen
   have j0:(0:Int)< (bs'.length:Int):=by omega
   have j00:0<bs'.length:=by omega
   have j1:(0:Int)≤(bs'.length:Int)-1∧(bs'.length:Int)-1< (bs'.length:Int):=by omega
   have j4:IntKind.i64.wrap ((bs'.length:Int)-1)=((bs'.length-1:Nat):Int):=by rw[IntKind.wrap_i64];omega
   have j2:((bs'.length:Int)-1).toNat=bs'.length-1:=by omega
   by_cases heq:r.size=x.size
   ·go_upto_region 2 with fail
    go_quiet (fail)
    go_upto_region 3 with fail
    have hdr:Below wr.heap.size wr (wr.drewN nq):=Q5 (Below.refl _ _) nq
    refine Qe (fun w'=>Below wr.heap.size wr w') hdr ?_
    rintro w3 hw3
    have a2:w3.cell? ⟨b,2,none⟩=some (.slice (some ⟨g,0,none⟩) bs'.length cap):=by rw[hw3.cell (p:=⟨b,2,none⟩) HQ.out.2.2.1.blk.lt];exact c2
    have ae:w3.cell? ⟨g,bs'.length-1,none⟩=some (ptr rb):=by rw[hw3.cell (p:=⟨g,bs'.length-1,none⟩) (World.block_lt_of_cell? _ _ celt)];exact celt
    have af:w3.frozen? ⟨b,2,none⟩=false:=(HQ.out.2.2.1.blk.grown hw3).frozen 2
    have H3:=hid hw3
    clear hw3 hdr c2 celt hfz
    go_quiet (fail)
    have hw4:Below wr.heap.size wr (w3.drewN nq):=Q5 H3.out nq
    go_upto_region 4 with fail
    refine Qe (fun w'=>Below wr.heap.size wr w') hw4 ?_
    clear a2 ae af hw4
    rintro w4 hw4
    have a2:w4.cell? ⟨b,2,none⟩=some (.slice (some ⟨g,0,none⟩) bs'.length cap):=by rw[(HQ.out.2.2.1.blk.grown hw4).cell];rfl
    have af:w4.frozen? ⟨b,2,none⟩=false:=(HQ.out.2.2.1.blk.grown hw4).frozen 2
    have H4:=hid hw4
    clear hw4
    refine QW 13 (by kernel_rfl) (by kernel_rfl) ?_
    dsimp only[List.take_succ_cons,List.take_zero,List.drop_succ_cons,List.drop_zero]
    repeat go_big_quiet_step (fail)
    refine wpQuiet_nil ?_
    rintro _ ⟨nq2,rfl⟩
    have b2:(w4.drewN nq2).cell? ⟨b,2,none⟩=some (.slice (some ⟨g,0,none⟩) bs'.length cap):=a2
    have bf:(w4.drewN nq2).frozen? ⟨b,2,none⟩=false:=af
    clear a2 af
    go_upto_region 5 with fail
    have hkw:Qu (· =b) wr ((w4.drewN nq2).setCell ⟨b,2,none⟩ (.slice (some ⟨g,0,none⟩) (bs'.length-1) cap)):=((Qu.of_grown H4.out).drewN _).set1 2 _
    have hbw:Blk ((w4.drewN nq2).setCell ⟨b,2,none⟩ (.slice (some ⟨g,0,none⟩) (bs'.length-1) cap)) b 180 [.int .i64 n,.int .u64 sz,.slice (some ⟨g,0,none⟩) (bs'.length-1) cap]:=((HQ.out.2.2.1.blk.grown H4.out).drewN nq2).set_ 2 _
    refine Qe (fun w'=>Qu (· =b) wr w'∧Blk w' b 180 [.int .i64 n,.int .u64 sz,.slice (some ⟨g,0,none⟩) (bs'.length-1) cap]) ⟨hkw,hbw⟩ ?_
    clear hkw hbw b2 bf
    rintro w5 ⟨hkw,hbw⟩
    have htr5:=HQ.out.2.2.1.shrink hkw hbw (by omega) HR.out.2.2.2.2.1
    have hst5:=XR hkw HQ.out.2.2.1.blk (by decide)
    have hnr5:=HR.out.1.stay hst5
    have hnx5:=HQ.out.1.stay hst5
    have hB5:Below B w w5:=hkw.step HQ.out.2.2.2.2.2.1 (Nat.le_trans hBw HQ.out.2.2.2.2.2.1.size) (fun j hj e=>by have e':j=b:=e;have:=HQ.out.2.2.1.hB;omega)
    have hW5:=hw.low hB5 hWB
    have hrt:ts'[ts'.length-1]?=some r:=by rw[← HR.out.2.2.2.2.2.2];exact HR.out.2.2.1
    have hsn:=Vw hrt
    have hpk:=HQ.out.2.2.2.1
    rw[hsn] at hpk
    have hpl:=hpk.last
    have hht:=Qar.1 heq
    have hlv:=HQ.out.2.2.2.2.2.2.1
    have hlv2:Qj (ts'.take (ts'.length-1))++(r.leaves++x.leaves)=ds++[d]:=by
     rw[← hlv];conv=>rhs;rw[hsn]
     simp[Qj]
    have hrl:∀ e∈r.leaves,e.length=32∧Dg.form n e=true:=fun e he=>HFA.out e (by rw[← hlv2];simp[he])
    have hxl:∀ e∈x.leaves,e.length=32∧Dg.form n e=true:=fun e he=>HFA.out e (by rw[← hlv2];simp[he])
    have hfit:XZ n [r.dig,x.dig]:=by
     intro e he
     rcases List.mem_cons.1 he with rfl|he
     ·rw[MT.dig_log n r hpl.2.1];exact Mt.log_fit n hn2 _ _ (Nat.le_refl _) hrl
     ·rw[List.mem_singleton] at he;subst he
      rw[MT.dig_log n x HQ.out.2.1];exact Mt.log_fit n hn2 _ _ (Nat.le_refl _) hxl
    have hxs:x.size≤ds.length+1:=by
     have h1:=MT.leaves_len n x HQ.out.2.1
     have h2:=congrArg List.length hlv2
     simp only[List.length_append,List.length_cons,List.length_nil] at h2
     omega
    obtain⟨S,hS⟩:∃ S,S=2^(r.ht+1):=⟨_,rfl⟩
    have hS2:S=2*x.size:=by rw[hS,hht,Nat.pow_succ];unfold MT.size;omega
    have hmul:IntKind.u64.wrap (2*(x.size:Int))=(S:Int):=by
     rw[hS2,IntKind.wrap_u64];omega
    have hd32:(Dg.node n r.dig x.dig).length=32:=Dg.sum_length _ _ hn2
    have hbt:=Uc (Dg.node n r.dig x.dig) hd32 rb nb S
    obtain⟨hrd,_,_,hrb5⟩:=hnr5.cells
    obtain⟨hxd,_,_,hxb5⟩:=hnx5.cells
    have hrr5:w5.rangeAt rb 0 (r.dig.map b8):=hrb5.range [] (r.dig.map b8) _ rfl
    have hxr5:w5.rangeAt nb 0 (x.dig.map b8):=hxb5.range [] (x.dig.map b8) _ rfl
    have hrl32:(r.dig.map b8).length=32:=by simp[hrd]
    have hxl32:(x.dig.map b8).length=32:=by simp[hxd]
    have x34:=Fut.cell (show w5.cell? ⟨nb,34,none⟩=some (.int .u64 x.size) from by rw[hxb5.cell];unfold QR;rw[List.getElem?_append_right (by simp[hxd])];simp[hxd])
    have hcj:∀ s:Fut w5,Calls Tryz.prog 173 #[ptr b,dg r.dig,dg x.dig] s.v fun e w''=>e= .returned (dg (Dg.node n r.dig x.dig))∧∃ s':Fut w5,w''=s'.v:=fun s=>Calls.fut_of (V9 b n hn1 hn2 _ _ _ (by rw[(hbw.grown s.below).cell];rfl) hfit (hW5.fut s))
    have HJ:=hid (Qa hcj (Qa hrr5 (Qa hxr5 (Qa hrl32 (Qa hxl32 (Qa hbt (Qa htr5 (Qa hnr5 (Qa hnx5 (Qa hB5 (Qa hpl (Qa hlv2 (Qa hht (Qa hrt (Qa hd32 hS)))))))))))))))
    clear hcj hrr5 hxr5 hrl32 hxl32 hbt htr5 hnr5 hnx5 hB5 hpl hlv2 hht hrt hd32 hS hS2 hsn hpk hlv hrl hxl hfit hrd hxd hrb5 hxb5 hst5 hkw hbw hW5 c1 c0 n34 r34
    refine Qq 18 (by kernel_rfl) (by kernel_rfl) ?_
    dsimp only[List.take_succ_cons,List.take_zero,List.drop_succ_cons,List.drop_zero]
    repeat (first
     |(go_big_quiet_want;(with_reducible refine QG 40 (.tmp 66) rb 0 _ 32 _ HJ.out.2.2.2.1 (QA HJ.out.2.1) Tryz.underlying40 rfl (by kernel_rfl) ?_ ?_ ?_);rfl;rfl;simp only[Act.put,List.setIfInBounds_toArray,List.set_cons_zero,List.set_cons_succ];go_big_quiet_on)
     |(go_big_quiet_want;(with_reducible refine QG 40 (.tmp 70) nb 0 _ 32 _ HJ.out.2.2.2.2.1 (QA HJ.out.2.2.1) Tryz.underlying40 rfl (by kernel_rfl) ?_ ?_ ?_);rfl;rfl;simp only[Act.put,List.setIfInBounds_toArray,List.set_cons_zero,List.set_cons_succ];go_big_quiet_on)
     |(go_big_quiet_want;(with_reducible refine Ua 243 #[(0,.tmp 72),(1,.tmp 73),(2,.tmp 74),(3,.tmp 79)] (QR (Dg.node n r.dig x.dig) (ptr rb) (ptr nb) S) ?_ ?_ ?_);rfl;exact HJ.out.2.2.2.2.2.1;simp only[Act.put,List.setIfInBounds_toArray,List.set_cons_zero,List.set_cons_succ];go_big_quiet_on)
     |go_big_quiet_step (with_reducible exact HJ.out.1 _))
    refine wpQuiet_nil ?_
    rintro _ ⟨s,rfl⟩
    go_wp2_with fail
    go_roundg (ts'.length-1)
    case measure=>omega
    case rel=>
     obtain⟨_,_,_,_,_,_,htr5,hnr5,hnx5,hB5,hpl,hlv2,hht,hrt,hd32,hS⟩:=HJ.out
     have hel:bs'.length-1=ts'.length-1:=by rw[HR.out.2.2.2.2.2.2]
     have hbox:=Qb s.v (.cells (QR (Dg.node n r.dig x.dig) (ptr rb) (ptr nb) S).toArray 243)
     have hg5:Below w5.heap.size w5 (s.v.alloc (.cells (QR (Dg.node n r.dig x.dig) (ptr rb) (ptr nb) S).toArray 243)):=gro s.below hbox
     refine⟨bs'.take (bs'.length-1),ts'.take (ts'.length-1),.slice (some ⟨g,0,none⟩) (bs'.length-1) cap,s.v.heap.size,.node (Dg.node n r.dig x.dig) r x,by rw[List.length_take];omega,rfl,⟨hd32,rb,nb,?_,hnr5.grown hg5,hnx5.grown hg5⟩,⟨hpl.2.1,HQ.out.2.1,hht,rfl⟩,?_,hpl.1,?_,?_,?_,?_⟩
     ·rw[← hS];exact Blk.new _ _ _
     ·rw[← hel];exact htr5.grown hg5
     ·rw[HQ.out.2.2.2.2.1];exact Qfq hrt hht
     ·exact hB5.trans (hg5.mono (Nat.le_trans hBw (Nat.le_trans (Nat.le_refl _) hB5.size)))
     ·exact hlv2
     ·rw[List.length_take];omega
   ·have hne:((r.size:Int) == (x.size:Int))=false:=by rw[beq_eq_false_iff_ne];omega
    have hpf:(Z8 n ts'.reverse x).reverse=ts'++[x]:=Qbw (r:=r) (by rw[← HR.out.2.2.2.2.2.2];exact HR.out.2.2.1) (fun e=>heq (Qar.2 e))
    have HPF:=hid hpf
    clear hpf
    have h63:bs'.length+1≤maxLen:=by unfold maxLen;omega
    have hby:(bs'.length+1)*8≤140737488355328:=by omega
    go_upto_region 2 with fail
    go_quiet (fail)
    have hdr:Below wr.heap.size wr (wr.drewN nq):=Q5 (Below.refl _ _) nq
    go_upto_region 6 with fail
    refine Qe (fun w'=>TrO B b n w' sz bs' ts' (.slice (some ⟨g,0,none⟩) bs'.length cap)∧Xb w' nb x∧Below B w w') ⟨HQ.out.2.2.1.grown hdr,HQ.out.1.grown hdr,HQ.out.2.2.2.2.2.1.trans (Q5 (Below.refl _ _) nq)⟩ ?_
    clear c2 c1 c0 n34 hfz hdr
    rintro w9 ⟨ht9,hn9,hb9⟩
    have hbx:=Qb w9 (.cells #[ptr nb] 196)
    have d2:(w9.alloc (.cells #[ptr nb] 196)).cell? ⟨b,2,none⟩=some (.slice (some ⟨g,0,none⟩) bs'.length cap):=by rw[(ht9.blk.grown hbx).cell];rfl
    have e2:w9.cell? ⟨b,2,none⟩=some (.slice (some ⟨g,0,none⟩) bs'.length cap):=by rw[ht9.blk.cell];rfl
    have hne:(.slice (some ⟨g,0,none⟩) bs'.length cap:Value).ownBlock≠some b:=Xz ht9.own ht9.blk (by decide)
    have hrd:Rd (w9.alloc (.cells #[ptr nb] 196)) (some ⟨w9.heap.size,0,none⟩) [ptr nb]:=Vq w9 _ _
    have hbs:B≤(w9.alloc (.cells #[ptr nb] 196)).heap.size:=by have:=hb9.size;simp;omega
    have H9:=hid (Qa ht9 (Qa hn9 (Qa hb9 (Qa (Qg ht9.own hbx) (Qa hne hrd)))))
    clear ht9 hn9 hb9 hbx hne hrd
    go_wp2_with (
     ((with_reducible refine Q1 (.tmp 86) (.tmp 88) 178 Tryz.underlying178 YY rfl (by decide) H9.out.2.2.2.1 1 1 rfl H9.out.2.2.2.2.2 Qaq h63 hby hbs ?_ ?_ ?_ ?_ ?_);rfl;rfl;rfl;rfl
      intro v2 w10 hown2 hg2 hat2 _
      have hk10:=Qn hg2
      have hbk10:Blk w10 b 180 [.int .i64 n,.int .u64 sz,.slice (some ⟨g,0,none⟩) bs'.length cap]:=hk10.blk (H9.out.1.blk.grown (Qb w9 _)) H9.out.2.2.2.2.1
      have f10:=hbk10.frozen 2
      have c10:w10.cell? ⟨b,2,none⟩=some (.slice (some ⟨g,0,none⟩) bs'.length cap):=(by rw[hbk10.cell];rfl)
      have f11:=hbk10.frozen 1
      have c11:w10.cell? ⟨b,1,none⟩=some (.int .u64 sz):=(by rw[hbk10.cell];rfl)
      have H10:=hid (Qa hown2 (Qa hg2 (Qa hat2 (Qa hk10 hbk10))))
      clear hown2 hg2 hat2 hk10 hbk10
      obtain⟨A2,c2',rfl,-,-⟩:=QC H10.out.1))
    go_end0
    have hend:=TrO.end_ H9.out.1 H9.out.2.1 H9.out.2.2.1 (Nat.le_trans hBw H9.out.2.2.1.size) H10.out.1 H10.out.2.1 H10.out.2.2.1 H10.out.2.2.2.2
    skip
    exact⟨rfl,hend.1,bs'++[nb],_,by rw[HQ.out.2.2.2.2.1,HPF.out];exact hend.2⟩
theorem YZ {n:Nat}:∀ (rs:List MT) (x:MT),Q0 n rs.reverse→x.ok n→(∀ u∈rs,x.ht≤u.ht)→Q0 n (Z8 n rs x).reverse∧Qj (Z8 n rs x).reverse=Qj rs.reverse++x.leaves
 |[],x,_,hx,_=>by
  rw[Z8]
  exact⟨⟨hx,by simp,trivial⟩,by simp[Qj]⟩
 |r :: rs,x,hp,hx,hl=>by
  rw[List.reverse_cons] at hp
  obtain⟨h1,h2,h3⟩:=hp.last
  rw[Z8]
  by_cases he:r.ht=x.ht
  ·rw[if_pos he]
   obtain⟨g1,g2⟩:=YZ rs (.node (Dg.node n r.dig x.dig) r x) h1 ⟨h2,hx,he,rfl⟩ (fun u hu=>h3 u (by simpa using hu))
   refine⟨g1,?_⟩
   rw[g2,List.reverse_cons]
   simp[Qj,MT.leaves]
  ·rw[if_neg he]
   have hlt:x.ht<r.ht:=by have:=hl r (by simp);omega
   rw[List.reverse_cons,List.reverse_cons]
   refine⟨Q0.snoc hp hx ?_,by simp[Qj]⟩
   intro u hu
   rcases List.mem_append.1 hu with hu|hu
   ·have:=h3 u hu;omega
   ·rw[List.mem_singleton] at hu;subst hu;exact hlt
theorem Qbx {n:Nat}{ts:List MT}{ds:List (List UInt8)}{d:List UInt8}(hp:Q0 n ts)(hl:Qj ts=ds):Q0 n (Z8 n ts.reverse (.leaf d)).reverse∧Qj (Z8 n ts.reverse (.leaf d)).reverse=ds++[d]:=by
 have:=YZ ts.reverse (.leaf d) (by rw[List.reverse_reverse];exact hp) trivial (fun u _=>Nat.zero_le _)
 rw[List.reverse_reverse,hl] at this
 exact this
end Go.Proofs.YtpnakfeafekneaaGreatDoor
