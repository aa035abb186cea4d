/- Part 2 of this proof. -/
import Derived.WalkKit
import Derived.WalkSpells
import Derived.Deep.MidRow
import Derived.Test.YtpnakfeafekneaaGreatDoorG01
set_option linter.unusedSimpArgs false
set_option linter.unusedVariables false
set_option maxHeartbeats 8000000
set_option maxRecDepth 100000
namespace Go.Proofs.YtpnakfeafekneaaGreatDoor
open Go.RowKit
def n8 (x:UInt8):Int:=x.toNat
def n32 (x:UInt32):Int:=x.toNat
abbrev b8 (x:UInt8):Value:= .int .u8 (n8 x)
abbrev b32 (x:UInt32):Value:= .int .u32 (n32 x)
theorem hid {p:Prop}(h:p):Hid p:=h
theorem JL:n32 0=0:=rfl
abbrev dg (l:List UInt8):Value:= .agg (l.map b8).toArray
theorem KJ (x:UInt8):n8 x<256:=by have:=x.toNat_lt;unfold n8;omega
theorem Xw (x:UInt8):0≤n8 x:=by unfold n8;omega
theorem Qgu (x:UInt32):n32 x<4294967296:=by have:=x.toNat_lt;unfold n32;omega
theorem U8 (x:UInt32):0≤n32 x:=by unfold n32;omega
theorem Ka {x y:UInt8}(h:n8 x=n8 y):x=y:=by unfold n8 at h;exact UInt8.toNat_inj.1 (by omega)
@[go_sem] theorem Qc2 (x y:UInt8):(n8 x == n8 y)=(x == y):=by
  by_cases h:x=y
  ·subst h;simp
  ·rw[beq_eq_false_iff_ne.2 h,beq_eq_false_iff_ne.2 (fun e=>h (Ka e))]
theorem Kb (a:UInt32):BitVec.ofInt 32 (n32 a)=a.toBitVec:=by
 apply BitVec.eq_of_toNat_eq
 simp[BitVec.toNat_ofInt,n32]
@[go_sem] theorem K3 (a:UInt32):IntKind.u32.wrap (n32 a)=n32 a:=by
  rw[IntKind.wrap_u32];have:=Qgu a;have:=U8 a;omega
@[go_sem] theorem Qh3 (a:UInt8):IntKind.u8.wrap (n8 a)=n8 a:=by
  rw[IntKind.wrap_u8];have:=KJ a;have:=Xw a;omega
@[go_sem] theorem Qhf (a:UInt8):IntKind.u32.wrap (n8 a)=n32 a.toUInt32:=by
  rw[IntKind.wrap_u32];have:=KJ a;have:=Xw a
  have e:n32 a.toUInt32=n8 a:=by simp[n32,n8]
  omega
@[go_sem] theorem Kc (a:UInt32):IntKind.u8.wrap (n32 a)=n8 a.toUInt8:=by
  rw[IntKind.wrap_u8]
  simp[n32,n8]
@[go_sem] theorem Qaf (a b:UInt32):IntKind.u32.wrap (n32 a+n32 b)=n32 (a+b):=by
  rw[IntKind.wrap_u32];simp[n32,UInt32.toNat_add]
theorem Qag (a b:UInt32):n32 (a+b)=(n32 a+n32 b) % 4294967296:=by rw[← Qaf,IntKind.wrap_u32]
@[go_sem] theorem Qfa (a b:UInt32):bits .xor .u32 (n32 a) (n32 b)=n32 (a ^^^ b):=by
  have e:n32 (a ^^^ b)=((a.toBitVec ^^^ b.toBitVec).toNat:Int):=rfl
  show IntKind.u32.wrap _=_
  rw[← K3 (a ^^^ b),e]
  simp only[Kb,IntKind.bits];rfl
@[go_sem] theorem Qh4 (a b:UInt32):bits .and .u32 (n32 a) (n32 b)=n32 (a &&& b):=by
  have e:n32 (a &&& b)=((a.toBitVec &&& b.toBitVec).toNat:Int):=rfl
  show IntKind.u32.wrap _=_
  rw[← K3 (a &&& b),e]
  simp only[Kb,IntKind.bits];rfl
@[go_sem] theorem Qgv (a b:UInt32):bits .or .u32 (n32 a) (n32 b)=n32 (a ||| b):=by
  have e:n32 (a ||| b)=((a.toBitVec ||| b.toBitVec).toNat:Int):=rfl
  show IntKind.u32.wrap _=_
  rw[← K3 (a ||| b),e]
  simp only[Kb,IntKind.bits];rfl
@[go_sem] theorem Qfb (a:UInt32):bits .xor .u32 4294967295 (n32 a)=n32 (~~~a):=by
  have h:(4294967295:Int)=n32 4294967295:=rfl
  rw[h,Qfa]
  have e:(4294967295:UInt32) ^^^ a= ~~~a:=by
   apply UInt32.toBitVec_inj.1
   exact BitVec.allOnes_xor
  rw[e]
@[go_sem] theorem Qgm (a:UInt32):bits .xor .u32 IntKind.u32.max (n32 a)=n32 (~~~a):=Qfb a
theorem JM (a:UInt32)(n:Nat)(h:n<32):IntKind.u32.wrap (n32 a*2^n)=n32 (a <<< UInt32.ofNat n):=by
 rw[IntKind.wrap_u32]
 have:n % 4294967296 % 32=n:=by omega
 simp[n32,UInt32.toNat_shiftLeft,Nat.shiftLeft_eq,this]
theorem Jk (a:UInt32)(n:Nat)(h:n<32):n32 a / 2^n=n32 (a >>> UInt32.ofNat n):=by
 have:n % 4294967296 % 32=n:=by omega
 simp[n32,UInt32.toNat_shiftRight,Nat.shiftRight_eq_div_pow,this]
@[go_sem] theorem Qhg (a:UInt32):IntKind.u32.wrap (n32 a*(16777216:Int))=n32 (a <<< 24):=JM a 24 (by decide)
@[go_sem] theorem Qhh (a:UInt32):IntKind.u32.wrap (n32 a*(65536:Int))=n32 (a <<< 16):=JM a 16 (by decide)
@[go_sem] theorem Qhl (a:UInt32):IntKind.u32.wrap (n32 a*(256:Int))=n32 (a <<< 8):=JM a 8 (by decide)
@[go_sem] theorem Qhm (a:UInt32):n32 a / (8:Int)=n32 (a >>> 3):=Jk a 3 (by decide)
@[go_sem] theorem Qhi (a:UInt32):n32 a / (1024:Int)=n32 (a >>> 10):=Jk a 10 (by decide)
theorem Jz {P:Program}{T e:TypeId}{n:Nat}{d:TypeDesc}(hT:P.underlying T=some (.array n e))(he:P.underlying e=some d)(hd:d.isRow=false)
 (hs:(P.info? e).map (·.size)=some 1) (cs:Array Value) (k:Nat) (v:Value) (hk:k<n) (hv:cs[k]?=some v) (w:World):(Instr.index T (.agg cs) (.int .i64 k)).run P w= .ok v w:=by
 cases hq:P.info? e with
 |none=>simp[hq] at hs
 |some i=>
  have hsz:i.size=1:=by simpa [hq] using hs
  have hk':(k:Int)< (n:Int):=by omega
  have ha:(isAgg e).run P w= .ok false w:=by
   unfold isAgg
   rw[Sem.run_bind,run_underlying he w]
   cases d<;>simp_all
  simp[Instr.index,asIntOf,run_underlying hT,sizeOf,typeInfo,hq,hsz,part,ha,hv]
  omega
namespace Wi
def wbyte (v i:Nat):UInt8:=UInt8.ofNat (v / 2^(8*i))
def wide (v k:Nat):List UInt8:=(List.range k).map fun j=>wbyte v (k-1-j)
def lo7 (v:Nat):UInt8:=UInt8.ofNat v
def hi7 (v:Nat):UInt8:=UInt8.ofNat (v % 128+128)
def uvar (v:Nat):List UInt8:=if v<128 then [lo7 v] else hi7 v :: uvar (v / 128)
termination_by v
decreasing_by omega
def blob (p:List UInt8):List UInt8:=uvar p.length++p
theorem uvar_low (v:Nat)(h:v<128):uvar v=[lo7 v]:=by rw[uvar,if_pos h]
theorem uvar_high (v:Nat)(h:¬v<128):uvar v=hi7 v :: uvar (v / 128):=by rw[uvar,if_neg h]
theorem uvar_length (n:Nat):∀ v,v<128^(n+1)→(uvar v).length≤n+1:=by
 induction n with
 |zero=>intro v hv;rw[uvar_low v (by simpa using hv)];simp
 |succ n ih=>
  intro v hv
  by_cases h:v<128
  ·rw[uvar_low v h];simp
  ·rw[uvar_high v h,List.length_cons]
   have:=ih (v / 128) (by rw[Nat.div_lt_iff_lt_mul (by decide),←Nat.pow_succ];exact hv)
   omega
theorem wide_length (v k:Nat):(wide v k).length=k:=by simp[wide]
theorem wide_take (v k j:Nat)(h:j<k):(wide v k).take (j+1)=(wide v k).take j++[wbyte v (k-1-j)]:=by
 have hl:j< (wide v k).length:=by rw[wide_length];exact h
 rw[List.take_succ_eq_append_getElem hl]
 simp[wide]
end Wi
structure Ent where
 kind:UInt8
 key:List UInt8
 val:List UInt8
structure Pr where
 key:List UInt8
 val:List UInt8
structure Rt where
 size:Nat
 log:List UInt8
 map:List UInt8
namespace Dg
def cut (n:Nat)(d:List UInt8):List UInt8:=d.take n++List.replicate (32-n) 0
def sum (n:Nat)(p:List UInt8):List UInt8:=cut n (Sha.sum p)
def form (n:Nat)(d:List UInt8):Bool:=decide (cut n d=d)
def leafIn (e:List UInt8):List UInt8:=0 :: e
def keyIn (k:List UInt8):List UInt8:=2 :: k
def nodeIn (n:Nat)(l r:List UInt8):List UInt8:=1 :: (l.take n++r.take n)
def bucketIn (ps:List Pr):List UInt8:=3 :: (Wi.uvar ps.length++ps.flatMap fun p=>Wi.blob p.key++Wi.blob p.val)
def branchIn (n bm:Nat)(ks:List (List UInt8)):List UInt8:=4 :: (Wi.wide bm 2++ks.flatMap fun k=>k.take n)
def rootIn (n:Nat)(r:Rt):List UInt8:=6 :: (Wi.wide r.size 8++(r.log.take n++r.map.take n))
def leaf (n:Nat)(e:List UInt8):List UInt8:=sum n (leafIn e)
def key (n:Nat)(k:List UInt8):List UInt8:=sum n (keyIn k)
def node (n:Nat)(l r:List UInt8):List UInt8:=sum n (nodeIn n l r)
def bucket (n:Nat)(ps:List Pr):List UInt8:=sum n (bucketIn ps)
def branch (n bm:Nat)(ks:List (List UInt8)):List UInt8:=sum n (branchIn n bm ks)
def root (n:Nat)(r:Rt):List UInt8:=sum n (rootIn n r)
def noLog (n:Nat):List UInt8:=sum n []
def noMap (n:Nat):List UInt8:=sum n [5]
theorem cut_length (n:Nat)(d:List UInt8)(hn:n≤32)(hd:d.length=32):(cut n d).length=32:=by simp[cut,hd];omega
theorem sum_length (n:Nat)(p:List UInt8)(hn:n≤32):(sum n p).length=32:=cut_length _ _ hn (Sha.sum_length p)
theorem cut_cut (n:Nat)(d:List UInt8)(hd:d.length=32)(hn:n≤32):cut n (cut n d)=cut n d:=by
 unfold cut
 rw[List.take_append_of_le_length (by simp;omega),List.take_take,Nat.min_self]
theorem form_sum (n:Nat)(p:List UInt8)(hn:n≤32):form n (sum n p)=true:=by
 unfold form sum
 rw[cut_cut _ _ (Sha.sum_length p) hn];simp
end Dg
end Go.Proofs.YtpnakfeafekneaaGreatDoor
