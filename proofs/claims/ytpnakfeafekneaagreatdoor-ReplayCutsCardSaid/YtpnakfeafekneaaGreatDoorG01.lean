/- Part 1 of this proof. -/
import Derived.WalkKit
set_option linter.unusedSimpArgs false
set_option linter.unusedVariables false
set_option maxHeartbeats 8000000
set_option maxRecDepth 100000
namespace Go.Proofs.YtpnakfeafekneaaGreatDoor
theorem Qa {a b:Prop}(x:a)(y:b):a∧b:=⟨x,y⟩
namespace Sha
def rotr (n:Nat)(x:UInt32):UInt32:=x <<< UInt32.ofNat (32-n) ||| x >>> UInt32.ofNat n
def be (m:Nat→UInt8)(i:Nat):UInt32:=(m i).toUInt32 <<< 24 ||| (m (i+1)).toUInt32 <<< 16 ||| (m (i+2)).toUInt32 <<< 8 ||| (m (i+3)).toUInt32
def sg0 (x:UInt32):UInt32:=rotr 7 x ^^^ rotr 18 x ^^^ x >>> 3
def sg1 (x:UInt32):UInt32:=rotr 17 x ^^^ rotr 19 x ^^^ x >>> 10
def W (m:Nat→UInt8)(i:Nat):UInt32:=if h:i<16 then be m (4*i) else W m (i-16)+sg0 (W m (i-15))+W m (i-7)+sg1 (W m (i-2))
termination_by i
theorem W_low (m:Nat→UInt8)(i:Nat)(h:i<16):W m i=be m (4*i):=by rw[W,dif_pos h]
theorem W_high (m:Nat→UInt8)(i:Nat)(h:¬i<16):W m i=W m (i-16)+sg0 (W m (i-15))+W m (i-7)+sg1 (W m (i-2)):=by rw[W,dif_neg h]
def kList:List UInt32:=[1116352408,1899447441,3049323471,3921009573,961987163,1508970993,2453635748,2870763221,3624381080,310598401,607225278,1426881987,1925078388,2162078206,2614888103,3248222580,3835390401,4022224774,264347078,604807628,770255983,1249150122,1555081692,1996064986,2554220882,2821834349,2952996808,3210313671,3336571891,3584528711,113926993,338241895,666307205,773529912,1294757372,1396182291,1695183700,1986661051,2177026350,2456956037,2730485921,2820302411,3259730800,3345764771,3516065817,3600352804,4094571909,275423344,430227734,506948616,659060556,883997877,958139571,1322822218,1537002063,1747873779,1955562222,2024104815,2227730452,2361852424,2428436474,2756734187,3204031479,3329325298]
def K (i:Nat):UInt32:=kList.getD i 0
structure St where
 a:UInt32
 b:UInt32
 c:UInt32
 d:UInt32
 e:UInt32
 f:UInt32
 g:UInt32
 k:UInt32
def T1 (s:St)(i:Nat)(w:UInt32):UInt32:=s.k+(rotr 6 s.e ^^^ rotr 11 s.e ^^^ rotr 25 s.e)+(s.e &&& s.f ^^^ ~~~s.e &&& s.g)+K i+w
def T2 (s:St):UInt32:=(rotr 2 s.a ^^^ rotr 13 s.a ^^^ rotr 22 s.a)+(s.a &&& s.b ^^^ s.a &&& s.c ^^^ s.b &&& s.c)
def step (s:St)(i:Nat)(w:UInt32):St:=⟨T1 s i w+T2 s,s.a,s.b,s.c,s.d+T1 s i w,s.e,s.f,s.g⟩
def rnd (m:Nat→UInt8)(h:St):Nat→St
 |0=>h
 |n+1=>step (rnd m h n) n (W m n)
def St.add (x y:St):St:=⟨x.a+y.a,x.b+y.b,x.c+y.c,x.d+y.d,x.e+y.e,x.f+y.f,x.g+y.g,x.k+y.k⟩
def compress (m:Nat→UInt8)(h:St):St:=h.add (rnd m h 64)
end Sha
namespace Sha
def H0:St:=⟨1779033703,3144134277,1013904242,2773480762,1359893119,2600822924,528734635,1541459225⟩
def blk (l:List UInt8)(o:Nat):Nat→UInt8:=fun j=>l.getD (o+j) 0
def hashN (l:List UInt8):Nat→St
 |0=>H0
 |n+1=>compress (blk l (64*n)) (hashN l n)
def H (l:List UInt8):St:=hashN l (l.length / 64)
theorem be_congr {m m':Nat→UInt8}(i:Nat)(h:∀ j,j<i+4→m j=m' j):be m i=be m' i:=by
 unfold be;rw[h i (by omega),h (i+1) (by omega),h (i+2) (by omega),h (i+3) (by omega)]
theorem W_congr {m m':Nat→UInt8}(h:∀ j,j<64→m j=m' j)(i:Nat):W m i=W m' i:=by
 induction i using Nat.strongRecOn with
 |_ i ih=>
  by_cases hi:i<16
  ·rw[W_low _ _ hi,W_low _ _ hi];exact be_congr _ fun j hj=>h j (by omega)
  ·rw[W_high _ _ hi,W_high _ _ hi,ih _ (by omega),ih (i-15) (by omega),ih (i-7) (by omega),ih (i-2) (by omega)]
theorem rnd_congr {m m':Nat→UInt8}(h:∀ j,j<64→m j=m' j)(s:St)(n:Nat):rnd m s n=rnd m' s n:=by
 induction n with
 |zero=>rfl
 |succ n ih=>rw[rnd,rnd,ih,W_congr h]
theorem compress_congr {m m':Nat→UInt8}(h:∀ j,j<64→m j=m' j)(s:St):compress m s=compress m' s:=by
 unfold compress;rw[rnd_congr h]
theorem hashN_append (l x:List UInt8)(n:Nat)(h:64*n≤l.length):hashN (l++x) n=hashN l n:=by
 induction n with
 |zero=>rfl
 |succ n ih=>
  rw[hashN,hashN,ih (by omega)]
  refine compress_congr (fun j hj=>?_) _
  unfold blk
  rw[List.getD_eq_getElem?_getD,List.getD_eq_getElem?_getD,List.getElem?_append_left (by omega)]
def pbyte (n i:Nat):UInt8:=UInt8.ofNat (8*n % 2^64 / 2^(8*i))
def padding (n:Nat):List UInt8:=128 :: (List.replicate ((119-n % 64) % 64) 0++(List.range 8).map fun j=>pbyte n (7-j))
theorem padding_length (n:Nat):(padding n).length=9+(119-n % 64) % 64:=by simp[padding];omega
def word (s:St)(i:Nat):UInt32:=match i with|0=>s.a|1=>s.b|2=>s.c|3=>s.d|4=>s.e|5=>s.f|6=>s.g|_=>s.k
def outB (s:St)(i:Nat):UInt8:=(word s (i / 4) >>> UInt32.ofNat (24-8*(i % 4))).toUInt8
def out (s:St):List UInt8:=(List.range 32).map (outB s)
def sum (l:List UInt8):List UInt8:=out (H (l++padding l.length))
theorem sum_length (l:List UInt8):(sum l).length=32:=by simp[sum,out]
structure Took (l:List UInt8) (h:St) (bg:Bool) (bb:List UInt8):Prop where
 size:bb.length=64
 none_:bg=false→l=[]
 words:bg=true→h=H l
 tail:bb.take (l.length % 64)=l.drop (64*(l.length / 64))
theorem Took.start:Took [] ⟨0,0,0,0,0,0,0,0⟩ false (List.replicate 64 0):=⟨by simp,fun _=>rfl,fun h=>(by cases h),by simp⟩
theorem Took.begun {l:List UInt8}{h:St}{bb:List UInt8}(t:Took l h false bb):Took l H0 true bb:=by
 have:=t.none_ rfl
 subst this
 exact⟨t.size,fun h=>(by cases h),fun _=>rfl,t.tail⟩
theorem Took.more {l x:List UInt8}{h:St}{bb:List UInt8}(t:Took l h true bb)(hx:l.length % 64+x.length<64):
 Took (l++x) h true (bb.take (l.length % 64)++(x++bb.drop (l.length % 64+x.length))):=by
 have hs:=t.size
 have hq:(l++x).length / 64=l.length / 64:=by rw[List.length_append];omega
 have hr:(l++x).length % 64=l.length % 64+x.length:=by rw[List.length_append];omega
 refine⟨?_,fun h=>(by cases h),fun _=>?_,?_⟩
 ·simp;omega
 ·rw[t.words rfl];unfold H;rw[hq,hashN_append _ _ _ (by omega)]
 ·rw[hq,hr,←List.append_assoc,List.take_append_of_le_length (by simp;omega),List.take_of_length_le (by simp;omega),t.tail,List.drop_append_of_le_length (by omega)]
theorem Took.full {l x:List UInt8}{h:St}{bb:List UInt8}(t:Took l h true bb)(hx:l.length % 64+x.length=64):
 Took (l++x) (compress (fun j=>(bb.take (l.length % 64)++x).getD j 0) h) true (bb.take (l.length % 64)++(x++bb.drop (l.length % 64+x.length))):=by
 have hs:=t.size
 have hq:(l++x).length / 64=l.length / 64+1:=by rw[List.length_append];omega
 have hr:(l++x).length % 64=0:=by rw[List.length_append];omega
 refine⟨?_,fun h=>(by cases h),fun _=>?_,?_⟩
 ·simp;omega
 ·rw[t.words rfl];unfold H;rw[hq,hashN,hashN_append _ _ _ (by omega),t.tail]
  refine compress_congr (fun j hj=>?_) _
  unfold blk
  rw[List.getD_eq_getElem?_getD,List.getD_eq_getElem?_getD,←List.getElem?_drop,List.drop_append_of_le_length (by omega)]
 ·rw[hq,hr,List.take_zero,List.drop_of_length_le (by rw[List.length_append];omega)]
end Sha
end Go.Proofs.YtpnakfeafekneaaGreatDoor
