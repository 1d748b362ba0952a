/- GrwPk, part 18: ShaMath, DecMath. -/
import Derived.WalkKit
import Derived.Lib.Hide
set_option linter.unusedVariables false
set_option maxRecDepth 100000
set_option linter.unusedSimpArgs false
namespace Go.Proofs.YtfeglnpmpgipiaaGreatDoor
section
open Go.RowKit
structure St where
 a:UInt32
 b:UInt32
 c:UInt32
 d:UInt32
 e:UInt32
 f:UInt32
 g:UInt32
 h:UInt32
def St.l (s:St):List UInt32:=[s.a,s.b,s.c,s.d,s.e,s.f,s.g,s.h]
def st0:St:=⟨0x6a09e667,0xbb67ae85,0x3c6ef372,0xa54ff53a,0x510e527f,0x9b05688c,0x1f83d9ab,0x5be0cd19⟩
def zDh:List UInt32:=[
 0x428a2f98,0x71374491,0xb5c0fbcf,0xe9b5dba5,0x3956c25b,0x59f111f1,0x923f82a4,0xab1c5ed5,
 0xd807aa98,0x12835b01,0x243185be,0x550c7dc3,0x72be5d74,0x80deb1fe,0x9bdc06a7,0xc19bf174,
 0xe49b69c1,0xefbe4786,0x0fc19dc6,0x240ca1cc,0x2de92c6f,0x4a7484aa,0x5cb0a9dc,0x76f988da,
 0x983e5152,0xa831c66d,0xb00327c8,0xbf597fc7,0xc6e00bf3,0xd5a79147,0x06ca6351,0x14292967,
 0x27b70a85,0x2e1b2138,0x4d2c6dfc,0x53380d13,0x650a7354,0x766a0abb,0x81c2c92e,0x92722c85,
 0xa2bfe8a1,0xa81a664b,0xc24b8b70,0xc76c51a3,0xd192e819,0xd6990624,0xf40e3585,0x106aa070,
 0x19a4c116,0x1e376c08,0x2748774c,0x34b0bcb5,0x391c0cb3,0x4ed8aa4a,0x5b9cca4f,0x682e6ff3,
 0x748f82ee,0x78a5636f,0x84c87814,0x8cc70208,0x90befffa,0xa4506ceb,0xbef9a3f7,0xc67178f2]
def yZ (x n:UInt32):UInt32:=(x >>> n) ||| (x <<< (32 - n))
def zIR (x:UInt32):UInt32:=yZ x 7 ^^^ yZ x 18 ^^^ (x >>> 3)
def zIU (x:UInt32):UInt32:=yZ x 17 ^^^ yZ x 19 ^^^ (x >>> 10)
def zJP (x:UInt32):UInt32:=yZ x 2 ^^^ yZ x 13 ^^^ yZ x 22
def zEd (x:UInt32):UInt32:=yZ x 6 ^^^ yZ x 11 ^^^ yZ x 25
def choose (e f g:UInt32):UInt32:=(e &&& f) ^^^ (~~~e &&& g)
def most (a b c:UInt32):UInt32:=(a &&& b) ^^^ (a &&& c) ^^^ (b &&& c)
def word (w x y z:UInt8):UInt32:=(w.toUInt32 <<< 24) ||| (x.toUInt32 <<< 16) ||| (y.toUInt32 <<< 8) ||| z.toUInt32
def words:List UInt8→List UInt32
 | w :: x :: y :: z :: r=>word w x y z :: words r
 | _=>[]
def zBV (w:List UInt32):UInt32:=w.getD (w.length - 16) 0+zIR (w.getD (w.length - 15) 0)+w.getD (w.length - 7) 0+zIU (w.getD (w.length - 2) 0)
def grow:Nat→List UInt32→List UInt32
 | 0,w=>w
 | n+1,w=>grow n (w ++ [zBV w])
def sched (b:List UInt8):List UInt32:=grow 48 (words b)
def rnd (s:St) (k w:UInt32):St :=
 let t1:=s.h+zEd s.e+choose s.e s.f s.g+k+w
 let t2:=zJP s.a+most s.a s.b s.c
 ⟨t1+t2,s.a,s.b,s.c,s.d+t1,s.e,s.f,s.g⟩
def zEb (s:St):List UInt32→List UInt32→St
 | k :: ks,w :: ws=>zEb (rnd s k w) ks ws
 | _,_=>s
def St.add (s t:St):St:=⟨s.a+t.a,s.b+t.b,s.c+t.c,s.d+t.d,s.e+t.e,s.f+t.f,s.g+t.g,s.h+t.h⟩
def dig (s:St) (b:List UInt8):St:=(zEb s zDh (sched b)).add s
def zAX (s:St):Nat→List UInt8→St
 | 0,_=>s
 | n+1,b=>zAX (dig s (b.take 64)) n (b.drop 64)
def zeros (n:Nat):Nat:=(119 - n % 64) % 64
def zFr (n:Nat):List UInt8:=[UInt8.ofNat (n / 72057594037927936),UInt8.ofNat (n / 281474976710656),UInt8.ofNat (n / 1099511627776),UInt8.ofNat (n / 4294967296),UInt8.ofNat (n / 16777216),UInt8.ofNat (n / 65536),UInt8.ofNat (n / 256),UInt8.ofNat n]
def zBb (n:Nat):List UInt8:=128 :: (List.replicate (zeros n) 0 ++ zFr (8 * n))
def zJb (x:UInt32):List UInt8:=[UInt8.ofNat (x.toNat / 16777216),UInt8.ofNat (x.toNat / 65536),UInt8.ofNat (x.toNat / 256),UInt8.ofNat x.toNat]
def zFs (s:St):List UInt8:=s.l.flatMap zJb
def zFN (xs:List UInt8):List UInt8:=zFs (zAX st0 ((xs.length+72) / 64) (xs ++ zBb xs.length))
theorem zHz (n:Nat):(n+(zBb n).length) % 64=0∧(n+(zBb n).length) / 64=(n+72) / 64:=by
 have h:(zBb n).length=9+zeros n:=(by simp [zBb,zFr];omega);rw [h];unfold zeros;omega
theorem zEq (xs:List UInt8):(zFN xs).length=32:=rfl
theorem zFC:∀ (a b:Nat) (s:St) (xs:List UInt8),zAX s (a+b) xs=zAX (zAX s a xs) b (xs.drop (64 * a))
 | 0,b,s,xs=>by simp [zAX]
 | a+1,b,s,xs=>by
  rw [show a+1+b=(a+b)+1 by omega];simp only [zAX];rw [zFC a b,List.drop_drop]
  congr 2;omega
theorem zDI:∀ (n:Nat) (s:St) (xs ys:List UInt8),64 * n≤xs.length→zAX s n (xs ++ ys)=zAX s n xs
 | 0,_,_,_,_=>rfl
 | n+1,s,xs,ys,h=>by
  simp only [zAX];rw [List.take_append_of_le_length (by omega),List.drop_append_of_le_length (by omega),zDI n _ _ _ (by rw [List.length_drop];omega)]
end
section
def zBD (n:Nat):List UInt8:=if h:n < 10 then [UInt8.ofNat (48+n)] else zBD (n / 10) ++ [UInt8.ofNat (48+n % 10)]
termination_by n
decreasing_by omega
theorem zCi {n:Nat} (h:n < 10):zBD n=[UInt8.ofNat (48+n)]:=by rw [zBD,dif_pos h]
theorem zGV {n:Nat} (h:¬ n < 10):zBD n=zBD (n / 10) ++ [UInt8.ofNat (48+n % 10)]:=by rw [zBD,dif_neg h]
theorem zCp:∀ (k n:Nat),n < 10 ^ (k+1)→(zBD n).length≤k+1
 | 0,n,h=>by rw [zCi (by simpa using h)];simp
 | k+1,n,h=>by
  by_cases h10:n < 10
  ·rw [zCi h10];simp
  ·rw [zGV h10,List.length_append];have:=zCp k (n / 10) (by rw [Nat.div_lt_iff_lt_mul (by omega)];rw [Nat.pow_succ] at h;exact h);simp only [List.length_cons,List.length_nil];omega
end
end Go.Proofs.YtfeglnpmpgipiaaGreatDoor
