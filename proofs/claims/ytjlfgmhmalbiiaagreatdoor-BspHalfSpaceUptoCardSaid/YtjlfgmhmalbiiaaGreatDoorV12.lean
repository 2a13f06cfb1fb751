import Derived.LoopNIn
import Derived.Test.YtjlfgmhmalbiiaaGreatDoorV11
set_option linter.all false
namespace Go.Sx
set_option linter.unusedVariables false
theorem xK (m:ByteArray) (i:Nat) (h:i<m.data.toList.length):bt m i=(m.data.toList[i].toNat:Int):=by
 unfold bt
 have h2:i<m.data.size:=by rw[Array.length_toList]at h;exact h
 simp only[Array.getD_eq_getD_getElem?,Array.getElem?_eq_getElem h2,Option.getD_some,Array.getElem_toList]
theorem b5y (m : ByteArray) (L i : Nat) (hi : i < m.size) (hL : i / 4 < L) :
  (dgp L (nvL (m.data.toList.take i))).set (i / 4) (IntKind.u32.wrap ((BitVec.ofInt IntKind.u32.bits ((dgp L (nvL (m.data.toList.take i))).getD (i / 4) 0) |||
   BitVec.ofInt IntKind.u32.bits (IntKind.u32.wrap (bt m i*2 ^ min (8*((i:Int) % 4)).toNat 32))).toNat:Int))=dgp L (nvL (m.data.toList.take (i+1))):=by
 have hl:i<m.data.toList.length:=by rw[← p9];exact hi
 rw[xK m i hl,a2f _ _ hl]
 have hx:nvL (m.data.toList.take i)<256 ^ i:=by
  have:=xE (m.data.toList.take i)
  have e:(m.data.toList.take i).length=i:=by simp only[List.length_take];omega
  rwa [e]at this
 generalize nvL (m.data.toList.take i)=x at *
 have hb:=(m.data.toList[i]).toNat_lt
 generalize (m.data.toList[i]).toNat=b at *
 rw[c1i hx hb hL,c1j hL]
 congr 1
 have hmin:min (8*((i:Int) % 4)).toNat 32=8*(i % 4):=by omega
 rw[hmin]
 have hp:(2:Int) ^ (8*(i % 4))=((256 ^ (i % 4):Nat):Int):=by
  rw[show (256:Nat)=2 ^ 8 from rfl,← Nat.pow_mul];norm_cast
 rw[hp]
 have hr:i % 4<4:=Nat.mod_lt _ (by decide)
 have hd:x / B32 ^ (i / 4) % B32<256 ^ (i % 4):=by
  have hi4:i=4*(i / 4)+i % 4:=by omega
  have hB:256 ^ i=B32 ^ (i / 4)*256 ^ (i % 4):=by rw[tO,← Nat.pow_add];congr 1
  have h1:x / B32 ^ (i / 4)<256 ^ (i % 4):=by
   rw[Nat.div_lt_iff_lt_mul (Nat.pow_pos (by decide)),Nat.mul_comm,← hB];exact hx
  exact Nat.lt_of_le_of_lt (Nat.mod_le _ _) h1
 generalize x / B32 ^ (i / 4) % B32=d at *
 have hcast:((b:Int)*((256 ^ (i % 4):Nat):Int))=((b*256 ^ (i % 4):Nat):Int):=by norm_cast
 rw[hcast]
 have h5:b*256 ^ (i % 4)+256 ^ (i % 4)≤256 ^ 4:=by
  have h1:(b+1)*256 ^ (i % 4)≤256*256 ^ (i % 4):=Nat.mul_le_mul_right _ (by omega)
  have h2:256*256 ^ (i % 4)≤256 ^ 4:=by
   rw[← Nat.pow_succ'];exact Nat.pow_le_pow_right (by decide) (by omega)
  rw[Nat.add_mul]at h1;omega
 have h6:(256:Nat) ^ 4=4294967296:=by decide
 have hpos:0<256 ^ (i % 4):=Nat.pow_pos (by decide)
 rw[z8 (n:=((b*256 ^ (i % 4):Nat):Int)) (by omega) (by omega)]
 have hp2:(2:Int) ^ (8*(i % 4))=((256 ^ (i % 4):Nat):Int):=hp
 refine (tP (a:=(d:Int)) (b:=((b*256 ^ (i % 4):Nat):Int)) (j:=8*(i % 4)) (by omega) (by rw[hp2];omega) (by omega) ?_ ?_ rfl).trans ?_
 ·rw[hp2]
  have:((b*256 ^ (i % 4):Nat):Int) % ((256 ^ (i % 4):Nat):Int)=((b*256 ^ (i % 4) % 256 ^ (i % 4):Nat):Int):=by norm_cast
  rw[this,Nat.mul_mod_left];rfl
 ·show _<(2:Int) ^ 32
  have:(2:Int) ^ 32=4294967296:=by decide
  rw[this]
  generalize b*256 ^ (i % 4)=q at *
  omega
 ·rfl
theorem a2q (c:ByteArray) {i:Nat} (h:c.size≤i):nvL (c.data.toList.take i)=nv c:=by
 rw[List.take_of_length_le (by rw[← p9];exact h)];rfl
def wv:List Int→Nat
 | []=>0
 | d::l=>d.toNat+B32*wv l
def le4 (d:Int):List Int:=[d % 256,d / 256 % 256,d / 65536 % 256,d / 16777216 % 256]
def by4 (xs:List Int):List Int:=xs.flatMap le4
theorem c1y (xs:List Int) (i:Nat) (h:i<xs.length):by4 (xs.take (i+1))=by4 (xs.take i)++le4 (xs.getD i 0):=by
 unfold by4
 rw[List.take_succ_eq_append_getElem h,List.flatMap_append]
 simp[List.getD,List.getElem?_eq_getElem h]
theorem c0h (d:Int) (k:Nat) (hd:0≤d) (hd2:d<4294967296) (hk:k<4):(le4 d).take (k+1)=(le4 d).take k++[IntKind.u8.wrap (d.fdiv (2 ^ min (8*k) 32))]:=by
 have hw:∀ z:Int,IntKind.u8.wrap z=z % 256:=fun z=>by simp[IntKind.wrap,IntKind.bits,IntKind.signed]
 rw[hw]
 rw[Int.fdiv_eq_ediv_of_nonneg _ (by have:(0:Int)<2 ^ min (8*k) 32:=Int.pow_pos (by decide);omega)]
 match k,hk with
 | 0,_=>simp[le4]
 | 1,_=>simp[le4]
 | 2,_=>simp[le4]
 | 3,_=>simp[le4]
def ofI (l:List Int):List UInt8:=l.map fun z=>UInt8.ofNat z.toNat
theorem iF (l:List Int) (h:∀ z∈l,0≤z∧z<256):aG .u8 l=(ofI l).map rN:=by
 induction l with
 | nil=>rfl
 | cons z l ih =>
  have h1:=h z (by simp)
  have h2:=ih fun z hz=>h z (by simp[hz])
  simp only[aG,ofI,List.map_cons]at *
  rw[h2]
  simp only[encI,rN]
  congr 3
  simp
  omega
theorem c1z (xs:List Int):∀ z∈by4 xs,0≤z∧z<256:=by
 intro z hz
 simp only[by4,List.mem_flatMap]at hz
 obtain⟨d,_,hz⟩:=hz
 simp only[le4,List.mem_cons,List.not_mem_nil,or_false]at hz
 rcases hz with rfl|rfl|rfl|rfl<;>omega
theorem c8k (xs:List Int) (h:∀ x∈xs,0≤x∧x<4294967296):nvL (ofI (by4 xs))=wv xs:=by
 induction xs with
 | nil=>rfl
 | cons x xs ih =>
  have h1:=h x (by simp)
  have h2:=ih fun z hz=>h z (by simp[hz])
  have e:ofI (by4 (x::xs))=ofI (le4 x)++ofI (by4 xs):=by simp[by4,ofI]
  rw[e,vD,h2]
  simp only[ofI,le4,List.map_cons,List.map_nil,nvL,wv,List.length_cons,List.length_nil]
  obtain⟨n,rfl⟩:=Int.eq_ofNat_of_zero_le h1.1
  have hn:n<4294967296:=by omega
  have e0:((n:Int) % 256).toNat=n % 256:=by omega
  have e1:((n:Int) / 256 % 256).toNat=n / 256 % 256:=by omega
  have e2:((n:Int) / 65536 % 256).toNat=n / 65536 % 256:=by omega
  have e3:((n:Int) / 16777216 % 256).toNat=n / 16777216 % 256:=by omega
  simp only[e0,e1,e2,e3,UInt8.toNat_ofNat',Nat.reducePow,Nat.mod_mod,Int.toNat_natCast]
  have hB0:B32=4294967296:=rfl
  rw[hB0]
  omega
end Go.Sx
namespace Go.Sx
set_option linter.unusedVariables false
def wz:List Int→Int
 | []=>0
 | d::l=>d+4294967296*wz l
def Dig (xs:List Int):Prop:=∀ x∈xs,0≤x∧x<4294967296
theorem qX {xs:List Int} (h:Dig xs):(wv xs:Int)=wz xs:=by
 induction xs with
 | nil=>rfl
 | cons x xs ih =>
  have h1:=h x (by simp)
  have h2:=ih fun z hz=>h z (by simp[hz])
  simp only[wv,wz,Int.natCast_add,Int.natCast_mul,h2]
  have hB0:(B32:Int)=4294967296:=rfl
  rw[hB0]
  omega
theorem pA (a b:List Int):wz (a++b)=wz a+4294967296 ^ a.length*wz b:=by
 induction a with
 | nil=>simp[wz]
 | cons x a ih =>
  simp only[List.cons_append,wz,ih,List.length_cons,Int.pow_succ]
  grind
theorem Dig.getD {xs:List Int} (h:Dig xs) (i:Nat):0≤xs.getD i 0∧xs.getD i 0<4294967296:=by
 rw[List.getD_eq_getElem?_getD]
 by_cases hi:i<xs.length
 ·rw[List.getElem?_eq_getElem hi];exact h _ (List.getElem_mem _)
 ·rw[List.getElem?_eq_none (by omega)];simp
theorem cQ (xs:List Int) (i:Nat):wz (xs.take (i+1))=wz (xs.take i)+4294967296 ^ i*xs.getD i 0:=by
 by_cases h:i<xs.length
 ·rw[List.take_succ_eq_append_getElem h,pA]
  have hl:(xs.take i).length=i:=by simp;omega
  rw[hl,List.getD_eq_getElem?_getD,List.getElem?_eq_getElem h]
  simp[wz]
 ·rw[List.take_of_length_le (by omega),List.take_of_length_le (by omega),List.getD_eq_getElem?_getD,List.getElem?_eq_none (by omega)]
  simp
theorem b1u {xs:List Int} {i:Nat} (h:i<xs.length) (d:Int):(xs.set i d).take (i+1)=xs.take i++[d]:=by
 rw[List.take_succ_eq_append_getElem (by simpa using h)]
 simp[List.take_set_of_le]
theorem jP {xs:List Int} {i:Nat} (h:i<xs.length) (d:Int):wz ((xs.set i d).take (i+1))=wz (xs.take i)+4294967296 ^ i*d:=by
 rw[b1u h,pA]
 have hl:(xs.take i).length=i:=by simp;omega
 rw[hl];simp[wz]
theorem Dig.set {xs:List Int} (h:Dig xs) {i:Nat} {d:Int} (hd:0≤d∧d<4294967296):Dig (xs.set i d):=by
 intro x hx
 rcases List.mem_or_eq_of_mem_set hx with hx|rfl
 ·exact h x hx
 ·exact hd
theorem Dig.rep (n:Nat):Dig (List.replicate n 0):=by
 intro x hx;rw[List.eq_of_mem_replicate hx];decide
theorem dH {xs:List Int} (h:Dig xs):0≤wz xs:=by rw[← qX h];omega
theorem jJ {xs:List Int} (h:Dig xs):wz xs<4294967296 ^ xs.length:=by
 induction xs with
 | nil=>simp[wz]
 | cons x xs ih =>
  have h1:=h x (by simp)
  have h2:=ih fun z hz=>h z (by simp[hz])
  simp only[wz,List.length_cons,Int.pow_succ]
  omega
theorem Dig.take {xs:List Int} (h:Dig xs) (i:Nat):Dig (xs.take i):=fun x hx=>h x (List.mem_of_mem_take hx)
theorem Dig.drop {xs:List Int} (h:Dig xs) (i:Nat):Dig (xs.drop i):=fun x hx=>h x (List.mem_of_mem_drop hx)
theorem Dig.append {xs ys:List Int} (h:Dig xs) (h':Dig ys):Dig (xs++ys):=fun x hx=>by
 rcases List.mem_append.1 hx with hx|hx
 ·exact h x hx
 ·exact h' x hx
theorem lF (L x:Nat):Dig (dgp L x):=by
 intro d hd
 simp only[dgp,List.mem_map]at hd
 obtain⟨j,_,rfl⟩:=hd
 have hB0:B32=4294967296:=rfl
 have:=Nat.mod_lt (x / B32 ^ j) (show 0<B32 by decide)
 omega
theorem a6i (L x:Nat):dgp (L+1) x=((x % B32:Nat):Int)::dgp L (x / B32):=by
 apply List.ext_getElem
 ·simp[fU]
 ·intro i h1 h2
  rw[nQ]
  cases i with
  | zero=>simp
  | succ i =>
   simp only[List.getElem_cons_succ,nQ]
   rw[Nat.pow_succ',Nat.div_div_eq_div_mul]
theorem a8u {L x:Nat} (h:x<B32 ^ L):wz (dgp L x)=x:=by
 induction L generalizing x with
 | zero =>
  have:x=0:=by simpa using h
  subst this
  rfl
 | succ L ih =>
  rw[a6i]
  simp only[wz]
  rw[ih (by rw[Nat.div_lt_iff_lt_mul (by decide)];rwa [Nat.pow_succ]at h)]
  have hB0:B32=4294967296:=rfl
  rw[hB0]
  omega
def lmN (n:Nat):List Int:=dgp (((nb n).size+3) / 4) n
theorem vF (n:Nat):(lmN n).length=((nb n).size+3) / 4:=fU _ _
theorem lC (n:Nat):Dig (lmN n):=lF _ _
theorem c8o (n:Nat):n<B32 ^ (((nb n).size+3) / 4):=by
 rw[tO]
 exact Nat.lt_of_lt_of_le ((cE n _).1 (Nat.le_refl _)) (Nat.pow_le_pow_right (by decide) (by omega))
theorem lH (n:Nat):wz (lmN n)=n:=a8u (c8o n)
theorem a3p {n k:Nat} (h:n<B32 ^ k):(lmN n).length≤k:=by
 rw[vF]
 rw[tO]at h
 have:=(cE n _).2 h
 omega
theorem c0a:lmN 0=[]:=by
 apply List.eq_nil_of_length_eq_zero
 have:=a3p (n:=0) (k:=0) (by decide)
 omega
theorem iG (z:Int):IntKind.u32.wrap z=z % 4294967296:=by simp[IntKind.wrap,IntKind.bits,IntKind.signed]
theorem c5w (v:BitVec 32):BitVec.ofInt 32 (IntKind.u32.wrap (v.toNat:Int))=v:=by
 rw[iG]
 have:v.toNat<4294967296:=v.isLt
 rw[Int.emod_eq_of_lt (by omega) (by omega)]
 simp
theorem c9t (v:BitVec 32):(IntKind.u32.wrap (v.toNat:Int)).fdiv (2 ^ 31)=if v.msb then 1 else 0:=by
 rw[iG]
 have h1:v.toNat<4294967296:=v.isLt
 rw[Int.emod_eq_of_lt (by omega) (by omega),Int.fdiv_eq_ediv_of_nonneg _ (by decide),BitVec.msb_eq_decide]
 have e:(2:Int) ^ 31=2147483648:=by decide
 have e2:(2:Nat) ^ (32 - 1)=2147483648:=by decide
 rw[e,e2]
 by_cases h:2147483648≤v.toNat<;>simp[h]<;>omega
theorem c2a {x y b : Int} (hx : 0 ≤ x ∧ x < 4294967296) (hy : 0 ≤ y ∧ y < 4294967296) (hb : 0 ≤ b ∧ b ≤ 1) :
  (IntKind.u32.wrap ((BitVec.ofInt 32 (IntKind.u32.wrap ((BitVec.ofInt 32 (IntKind.u32.wrap ((BitVec.ofInt 32 IntKind.u32.max ^^^ BitVec.ofInt 32 x).toNat:Int)) &&& BitVec.ofInt 32 y).toNat:Int)) |||
   BitVec.ofInt 32 (IntKind.u32.wrap ((BitVec.ofInt 32 (IntKind.u32.wrap ((BitVec.ofInt 32 IntKind.u32.max ^^^ BitVec.ofInt 32 (IntKind.u32.wrap ((BitVec.ofInt 32 x ^^^ BitVec.ofInt 32 y).toNat:Int))).toNat:Int)) &&&
    BitVec.ofInt 32 (IntKind.u32.wrap (IntKind.u32.wrap (x - y) - b))).toNat:Int))).toNat:Int)).fdiv (2 ^ 31)=if x<y+b then 1 else 0:=by
 rw[c9t]
 simp only[c5w]
 have hmax:BitVec.ofInt 32 IntKind.u32.max=BitVec.allOnes 32:=by decide
 rw[hmax]
 have m1:∀ z:Int,0≤z→z<4294967296→(BitVec.ofInt 32 z).msb=decide (2147483648≤z):=by
  intro z h1 h2
  rw[BitVec.msb_eq_decide,BitVec.toNat_ofInt]
  have e:((z % ((2 ^ 32:Nat):Int)).toNat)=z.toNat:=by
   have:((2 ^ 32:Nat):Int)=4294967296:=by decide
   rw[this,Int.emod_eq_of_lt h1 h2]
  rw[e]
  have e2:(2:Nat) ^ (32 - 1)=2147483648:=by decide
  rw[e2]
  congr 1
  apply propext
  omega
 have hd:IntKind.u32.wrap (IntKind.u32.wrap (x - y) - b)=(x - y - b) % 4294967296:=by rw[iG,iG];omega
 rw[hd]
 simp only[BitVec.msb_or,BitVec.msb_and,BitVec.msb_xor,BitVec.msb_allOnes (w:=32) (by decide)]
 rw[m1 x hx.1 hx.2,m1 y hy.1 hy.2,m1 _ (by omega) (by omega)]
 by_cases c1:2147483648≤x<;>by_cases c2:2147483648≤y<;>by_cases c3:2147483648≤(x - y - b) % 4294967296<;>simp[c1,c2,c3]<;>omega
theorem j5 (m:ByteArray) (i:Nat):bt m i=((nv m / 256 ^ i % 256:Nat):Int):=by
 by_cases h:i<m.data.toList.length
 ·rw[xK m i h]
  congr 1
  have e:=vD (m.data.toList.take i) (m.data.toList.drop i)
  rw[List.take_append_drop]at e
  have hl:(m.data.toList.take i).length=i:=by simp only[List.length_take];omega
  have hlt:=xE (m.data.toList.take i)
  rw[hl]at e hlt
  have:nv m=nvL m.data.toList:=rfl
  rw[this,e,Nat.add_mul_div_left _ _ (Nat.pow_pos (by decide)),Nat.div_eq_of_lt hlt,Nat.zero_add,List.drop_eq_getElem_cons h]
  simp only[nvL]
  have:=(m.data.toList[i]).toNat_lt
  omega
 ·have h2:nv m<256 ^ i:=Nat.lt_of_lt_of_le (eW m) (Nat.pow_le_pow_right (by decide) (by rw[p9];omega))
  rw[Nat.div_eq_of_lt h2]
  unfold bt
  have:m.data.size≤i:=by rw[Array.length_toList]at h;omega
  simp[Array.getD_eq_getD_getElem?,Array.getElem?_eq_none this]
def bO (a b:Nat):Int:=if a<b then -1 else if a=b then 0 else 1
theorem vE {p q:Nat} (h:(nb p).size<(nb q).size):p<q:=by
 apply Nat.lt_of_not_le
 intro hqp
 have h1:=(cE p _).1 (Nat.le_refl _)
 have:=(cE q (nb p).size).2 (Nat.lt_of_le_of_lt hqp h1)
 omega
theorem b6y (m : ByteArray) (i : Nat) (hi : i < m.size) (h8 : i < 8) :
  IntKind.u64.wrap ((BitVec.ofInt IntKind.u64.bits (nvL (m.data.toList.take i):Int) ||| BitVec.ofInt IntKind.u64.bits (IntKind.u64.wrap (bt m i*2 ^ min (8*(i:Int)).toNat 64))).toNat:Int)=(nvL (m.data.toList.take (i+1)):Int):=by
 have hl:i<m.data.toList.length:=by rw[← p9];exact hi
 rw[xK m i hl,a2f _ _ hl]
 have hx:nvL (m.data.toList.take i)<256 ^ i:=by
  have:=xE (m.data.toList.take i)
  have e:(m.data.toList.take i).length=i:=by simp only[List.length_take];omega
  rwa [e]at this
 generalize nvL (m.data.toList.take i)=x at *
 have hb:=(m.data.toList[i]).toNat_lt
 generalize (m.data.toList[i]).toNat=b at *
 have hmin:min (8*(i:Int)).toNat 64=8*i:=by omega
 rw[hmin]
 have hp:(2:Int) ^ (8*i)=((256 ^ i:Nat):Int):=by
  rw[show (256:Nat)=2 ^ 8 from rfl,← Nat.pow_mul];norm_cast
 rw[hp]
 have hcast:((b:Int)*((256 ^ i:Nat):Int))=((b*256 ^ i:Nat):Int):=by norm_cast
 rw[hcast]
 have h5:b*256 ^ i+256 ^ i≤256 ^ 8:=by
  have h1:(b+1)*256 ^ i≤256*256 ^ i:=Nat.mul_le_mul_right _ (by omega)
  have h2:256*256 ^ i≤256 ^ 8:=by
   rw[← Nat.pow_succ'];exact Nat.pow_le_pow_right (by decide) (by omega)
  rw[Nat.add_mul]at h1;omega
 have h6:(256:Nat) ^ 8=18446744073709551616:=by decide
 have hpos:0<256 ^ i:=Nat.pow_pos (by decide)
 rw[wR (n:=((b*256 ^ i:Nat):Int)) (by omega) (by omega)]
 refine (tP (a:=(x:Int)) (b:=((b*256 ^ i:Nat):Int)) (j:=8*i) (by omega) (by rw[hp];omega) (by omega) ?_ ?_ rfl).trans ?_
 ·rw[hp]
  have:((b*256 ^ i:Nat):Int) % ((256 ^ i:Nat):Int)=((b*256 ^ i % 256 ^ i:Nat):Int):=by norm_cast
  rw[this,Nat.mul_mod_left];rfl
 ·show _<(2:Int) ^ 64
  have:(2:Int) ^ 64=18446744073709551616:=by decide
  rw[this]
  generalize b*256 ^ i=q at *
  omega
 ·norm_cast
theorem p7 {p q k:Nat} (h:p / 256 ^ (k+1)=q / 256 ^ (k+1)):(p / 256 ^ k % 256<q / 256 ^ k % 256→p<q)∧(p / 256 ^ k % 256=q / 256 ^ k % 256→p / 256 ^ k=q / 256 ^ k):=by
 have e:∀ n:Nat,n / 256 ^ (k+1)=n / 256 ^ k / 256:=fun n=>by rw[Nat.pow_succ,Nat.div_div_eq_div_mul]
 rw[e,e]at h
 refine⟨fun hlt=>?_,fun heq=>by omega⟩
 apply Nat.lt_of_not_le
 intro hqp
 have:=Nat.div_le_div_right (c:=256 ^ k) hqp
 omega
theorem c5q {a b:Nat}:bO a b<0↔a<b:=by unfold bO;split<;>(try split)<;>omega
theorem a5t {p q:Nat} (h:p≤q):(lmN p).length≤(lmN q).length:=by
 rw[vF,vF]
 have:=(cE p (nb q).size).2 (Nat.lt_of_le_of_lt h ((cE q _).1 (Nat.le_refl _)))
 omega
theorem dB {xs:List Int} {n:Nat} (h:xs.length≤n):xs.take n=xs:=List.take_of_length_le h
theorem a8s {xs:List Int} {i:Nat} (h:i<xs.length) (d:Int):wz (xs.set i d)=wz xs+4294967296 ^ i*(d - xs.getD i 0):=by
 induction xs generalizing i with
 | nil=>simp at h
 | cons x xs ih =>
  cases i with
  | zero=>simp[wz];omega
  | succ i =>
   have hi:i<xs.length:=by simpa using h
   have e:(x::xs).getD (i+1) 0=xs.getD i 0:=by simp
   simp only[List.set_cons_succ,wz,ih hi,e,Int.pow_succ]
   grind
theorem uU {xs:List Int} {i j:Nat} (h:i≠j) (d:Int):(xs.set i d).getD j 0=xs.getD j 0:=by
 simp[List.getD_eq_getElem?_getD,List.getElem?_set_ne h]
theorem a5x (n j:Nat):(List.replicate n (0:Int)).getD j 0=0:=by
 rw[List.getD_eq_getElem?_getD]
 by_cases h:j<n
 ·simp[h]
 ·rw[List.getElem?_eq_none (by simp;omega)];rfl
theorem a8t (n:Nat):wz (List.replicate n 0)=0:=by
 induction n with
 | zero=>rfl
 | succ n ih=>simp[List.replicate_succ,wz,ih]
end Go.Sx
namespace Go.Sx
set_option linter.unusedVariables false
def bK (n:Nat):Nat:=if h:n=0 then 0 else bK (n / 2)+1
termination_by n
decreasing_by omega
theorem vU:bK 0=0:=by rw[bK];simp
theorem pO {n:Nat} (h:n≠0):bK n=bK (n / 2)+1:=by rw[bK];simp[h]
theorem a8h (n:Nat):n<2 ^ bK n:=by
 induction n using Nat.strongRecOn with
 | _ n ih =>
  by_cases h:n=0
  ·subst h;simp[vU]
  ·rw[pO h,Nat.pow_succ]
   have:=ih (n / 2) (by omega)
   omega
theorem a8i {n:Nat} (h:n≠0):2 ^ (bK n - 1)≤n:=by
 induction n using Nat.strongRecOn with
 | _ n ih =>
  rw[pO h,Nat.add_sub_cancel]
  by_cases h2:n / 2=0
  ·rw[h2,vU];simp;omega
  ·have:=ih (n / 2) (by omega) h2
   have e:bK (n / 2)=bK (n / 2) - 1+1:=by have:=pO h2;omega
   rw[e,Nat.pow_succ]
   omega
theorem yV (n k:Nat) (h:2 ^ k≤n):bK n=k+bK (n / 2 ^ k):=by
 induction k generalizing n with
 | zero=>simp
 | succ k ih =>
  have hp:0<2 ^ k:=Nat.pow_pos (by decide)
  have hn:n≠0:=by rw[Nat.pow_succ]at h;omega
  rw[pO hn,ih (n / 2) (by rw[Nat.pow_succ]at h;omega),Nat.pow_succ',Nat.div_div_eq_div_mul]
  omega
theorem oA {n k:Nat} (h:n<2 ^ k):bK n≤k:=by
 by_cases hn:n=0
 ·subst hn;rw[vU];omega
 ·have h1:=a8i hn
  have h2:2 ^ (bK n - 1)<2 ^ k:=Nat.lt_of_le_of_lt h1 h
  have:=(Nat.pow_lt_pow_iff_right (show 1<2 by decide)).1 h2
  omega
theorem b7c {n k:Nat} (h:n<2 ^ k) (h2:(n=0∧k=0)∨(0<k∧2 ^ (k - 1)≤n)):bK n=k:=by
 rcases h2 with⟨rfl,rfl⟩|⟨h0,h2⟩
 ·exact vU
 ·have h3:=oA h
  have hn:n≠0:=by have:0<2 ^ (k - 1):=Nat.pow_pos (by decide);omega
  have h4:2 ^ (k - 1)<2 ^ bK n:=Nat.lt_of_le_of_lt h2 (a8h n)
  have:=(Nat.pow_lt_pow_iff_right (show 1<2 by decide)).1 h4
  omega
def b0g (l:List UInt8):Bool:=(List.range 256).all fun n=>decide (n<2 ^ (l.getD n 0).toNat)&&(decide (n=0∧(l.getD n 0).toNat=0)||decide (0<(l.getD n 0).toNat∧2 ^ ((l.getD n 0).toNat - 1)≤n))
theorem b8q {l:List UInt8} (h:b0g l=true) {n:Nat} (hn:n<256):bt ⟨l.toArray⟩ n=(bK n:Int):=by
 have:=List.all_eq_true.1 h n (List.mem_range.2 hn)
 simp only[Bool.and_eq_true,Bool.or_eq_true,decide_eq_true_eq]at this
 rw[b7c this.1 this.2]
 unfold bt
 simp[Array.getD_eq_getD_getElem?,List.getD_eq_getElem?_getD]
theorem c1f {xs:List Int} (h:Dig xs):xs=dgp xs.length (wz xs).toNat:=by
 induction xs with
 | nil=>rfl
 | cons x xs ih =>
  have h1:=h x (by simp)
  have h2:Dig xs:=fun z hz=>h z (by simp[hz])
  have h3:=dH h2
  rw[List.length_cons,a6i]
  have hB0:B32=4294967296:=rfl
  have e1:(wz (x::xs)).toNat % B32=x.toNat:=by rw[hB0];simp only[wz];omega
  have e2:(wz (x::xs)).toNat / B32=(wz xs).toNat:=by rw[hB0];simp only[wz];omega
  rw[e1,e2,← ih h2]
  congr 1
  omega
theorem qM {xs:List Int} {n:Nat} {v:Int} (h:Dig xs) (hn:xs.length=n) (hv:wz xs=v):xs=dgp n v.toNat:=by
 rw[← hn,← hv];exact c1f h
theorem sT {k:Nat} (h:k≤31):(1:Int)≤2 ^ k∧(2:Int) ^ k≤2147483648:=by
 have h1:(2:Nat) ^ k≤2 ^ 31:=Nat.pow_le_pow_right (by decide) h
 have h2:0<(2:Nat) ^ k:=Nat.pow_pos (by decide)
 have e:((2 ^ k:Nat):Int)=(2:Int) ^ k:=by norm_cast
 have e2:(2:Nat) ^ 31=2147483648:=by decide
 omega
theorem b3n {x d : Int} {k : Nat} (hk : k ≤ 31) (hx : 0 ≤ x ∧ x < 4294967296) (hd : 0 ≤ d ∧ d < 2 ^ k) :
  IntKind.u32.wrap ((BitVec.ofInt IntKind.u32.bits d ||| BitVec.ofInt IntKind.u32.bits (IntKind.u32.wrap (x*2 ^ k))).toNat:Int)=d+(x*2 ^ k) % 4294967296 ∧
  0≤d+(x*2 ^ k) % 4294967296∧d+(x*2 ^ k) % 4294967296<4294967296∧0≤x*2 ^ k∧x*2 ^ k<9223372036854775808∧0≤x*2 ^ k / 4294967296∧x*2 ^ k / 4294967296<2 ^ k:=by
 obtain⟨p1,p2⟩:=sT hk
 have e32:(2:Int) ^ IntKind.u32.bits=4294967296:=by decide
 have hsplit:(4294967296:Int)=2 ^ k*2 ^ (32 - k):=by
  rw[← Int.pow_add,show k+(32 - k)=32 by omega];decide
 have hmod:(x*2 ^ k) % 4294967296=2 ^ k*(x % 2 ^ (32 - k)):=by
  rw[hsplit,Int.mul_comm x,Int.mul_emod_mul_of_pos _ _ (by omega)]
 have hr:0≤x % 2 ^ (32 - k)∧x % 2 ^ (32 - k)<2 ^ (32 - k):=⟨Int.emod_nonneg _ (by have:(0:Int)<2 ^ (32 - k):=Int.pow_pos (by decide);omega),Int.emod_lt_of_pos _ (Int.pow_pos (by decide))⟩
 have hle:2 ^ k*(x % 2 ^ (32 - k))+2 ^ k≤4294967296:=by
  have:(2:Int) ^ k*(x % 2 ^ (32 - k)+1)≤2 ^ k*2 ^ (32 - k):=Int.mul_le_mul_of_nonneg_left (by omega) (by omega)
  rw[← hsplit,Int.mul_add,Int.mul_one]at this
  exact this
 have hnn:0≤2 ^ k*(x % 2 ^ (32 - k)):=Int.mul_nonneg (by omega) hr.1
 have hx1:0≤x*2 ^ k:=Int.mul_nonneg hx.1 (by omega)
 have hx2:x*2 ^ k≤4294967295*2147483648:=Int.mul_le_mul (by omega) p2 (by omega) (by decide)
 refine⟨?_,by rw[hmod];omega,by rw[hmod];omega,hx1,by omega,by omega,?_⟩
 ·rw[iG (x*2 ^ k),tP (j:=k) hd.1 hd.2 (by omega) ?_ ?_ rfl]
  ·rw[hmod];exact Int.mul_emod_right _ _
  ·rw[e32,hmod];omega
 ·rw[Int.ediv_lt_iff_lt_mul (by decide)]
  rw[Int.mul_comm]
  exact Int.mul_lt_mul_of_pos_left hx.2 (by omega)
theorem a2i {xs:List Int} {i:Nat} (h:i<xs.length) (d:Int):(xs.set i d).getD i 0=d:=by
 simp[List.getD_eq_getElem?_getD,h]
theorem z7 (xs:List Int) (j:Nat) (h:j<xs.length):wz (xs.drop j)=xs.getD j 0+4294967296*wz (xs.drop (j+1)):=by
 rw[List.drop_eq_getElem_cons h]
 simp[wz,List.getD_eq_getElem?_getD,h]
theorem b1y {xs:List Int} {j:Nat} (d:Int):(xs.set j d).drop (j+1)=xs.drop (j+1):=by
 rw[List.drop_set_of_lt (by omega)]
theorem a2o {xs:List Int} {j:Nat} (h:j<xs.length) (d:Int):wz ((xs.set j d).drop j)=d+4294967296*wz (xs.drop (j+1)):=by
 rw[z7 _ _ (by simpa using h),a2i h,b1y]
theorem b1z {x y : Int} {k : Nat} (hk : k ≤ 31) (hx : 0 ≤ x ∧ x < 4294967296) (hy : 0 ≤ y ∧ y < 4294967296) :
  0≤(x+y*4294967296) / 2 ^ k∧(x+y*4294967296) / 2 ^ k≤x+y*4294967296 ∧
  (IntKind.u32.wrap ((x+y*4294967296) / 2 ^ k))*2 ^ k=x - x % 2 ^ k+4294967296*(y % 2 ^ k):=by
 obtain⟨p1,p2⟩:=sT hk
 have hsplit:(4294967296:Int)=2 ^ k*2 ^ (32 - k):=by
  rw[← Int.pow_add,show k+(32 - k)=32 by omega];decide
 have hm1:(0:Int)<2 ^ (32 - k):=Int.pow_pos (by decide)
 generalize (2:Int) ^ k=c at *
 generalize (2:Int) ^ (32 - k)=m at *
 have hxm:=Int.mul_ediv_add_emod x c
 have hym:=Int.mul_ediv_add_emod y c
 have hx1:=Int.emod_nonneg x (show c≠0 by omega)
 have hx2:=Int.emod_lt_of_pos x (show 0<c by omega)
 have hy1:=Int.emod_nonneg y (show c≠0 by omega)
 have hy2:=Int.emod_lt_of_pos y (show 0<c by omega)
 have hq:(x+y*4294967296) / c=x / c+y*m:=by
  rw[hsplit,show x+y*(c*m)=x+c*(y*m) by grind,Int.add_mul_ediv_left _ _ (by omega)]
 have hxc:0≤x / c∧x / c<m:=by
  refine⟨Int.ediv_nonneg hx.1 (by omega),?_⟩
  rw[Int.ediv_lt_iff_lt_mul (by omega),Int.mul_comm,← hsplit];exact hx.2
 have hym0:0≤y*m:=Int.mul_nonneg hy.1 (by omega)
 have hmod:(x / c+y*m) % 4294967296=x / c+(y % c)*m:=by
  have e:x / c+y*m=(x / c+(y % c)*m)+4294967296*(y / c):=by rw[hsplit];grind
  rw[e,Int.add_mul_emod_self_left]
  apply Int.emod_eq_of_lt
  ·have:=Int.mul_nonneg hy1 (show 0≤m by omega);omega
  ·have:(y % c+1)*m≤c*m:=Int.mul_le_mul_of_nonneg_right (by omega) (by omega)
   rw[Int.add_mul,← hsplit]at this
   omega
 refine⟨by rw[hq];omega,?_,?_⟩
 ·exact Int.ediv_le_self _ (by omega)
 ·rw[iG,hq,hmod]
  have h1:(x / c+y % c*m)*c=c*(x / c)+(c*m)*(y % c):=by grind
  rw[h1,← hsplit]
  omega
theorem a1v {x y : Int} (hx : 0 ≤ x ∧ x < 4294967296) (hy : 0 ≤ y ∧ y < 4294967296) :
  IntKind.u64.wrap ((BitVec.ofInt IntKind.u64.bits x ||| BitVec.ofInt IntKind.u64.bits (y*4294967296)).toNat:Int)=x+y*4294967296:=by
 have e:(2:Int) ^ 32=4294967296:=by decide
 have e64:(2:Int) ^ IntKind.u64.bits=18446744073709551616:=by decide
 rw[tP (a:=x) (b:=y*4294967296) (j:=32) (by omega) (by omega) (by omega) (by omega) (by rw[e64];omega) rfl]
theorem c4m {xs:List Int} {k:Nat} (hk:k≤31):wz xs % 2 ^ k=xs.getD 0 0 % 2 ^ k:=by
 cases xs with
 | nil=>simp[wz]
 | cons x xs =>
  have hsplit:(4294967296:Int)=2 ^ k*2 ^ (32 - k):=by
   rw[← Int.pow_add,show k+(32 - k)=32 by omega];decide
  simp only[wz,List.getD_cons_zero]
  rw[hsplit,Int.mul_assoc,Int.add_mul_emod_self_left]
theorem jV {A V C:List Int} {i:Nat} (h:i<V.length):(A++(V++C)).getD (A.length+i) 0=V.getD i 0:=by
 simp only[List.getD_eq_getElem?_getD]
 rw[List.getElem?_append_right (by omega),List.getElem?_append_left (by omega)]
 simp
theorem mV {A V C:List Int} {i:Nat} (h:i<V.length) (d:Int):(A++(V++C)).set (A.length+i) d=A++(V.set i d++C):=by
 rw[List.set_append_right _ _ (by omega),List.set_append_left _ _ (by omega)]
 simp
theorem kV {K:Nat→Prop} (k:IntKind) (xs:List Int):InC K (.vec 1 (aG k xs)):=by
 simp only[InC,jF]
end Go.Sx
namespace Go.Sx
set_option linter.unusedVariables false
structure Est (P D N t d2 d' u1 u0 u2 n':Int):Prop where
 hP:0<P
 hD:D=(t*4294967296+d2)*P+d'
 hN:N=((u1*4294967296+u0)*4294967296+u2)*P+n'
 ht:2147483648≤t∧t<4294967296
 hd2:0≤d2∧d2<4294967296
 hd':0≤d'∧d'<P
 hu1:0≤u1∧u1<4294967296
 hu0:0≤u0∧u0<4294967296
 hu2:0≤u2∧u2<4294967296
 hn':0≤n'∧n'<P
 hND:N<D*4294967296
variable {P D N t d2 d' u1 u0 u2 n':Int}
theorem Est.u1_le (h:Est P D N t d2 d' u1 u0 u2 n'):u1≤t:=by
 obtain⟨hP,hD,hN,ht,hd2,hd',hu1,hu0,hu2,hn',hND⟩:=h
 apply Int.not_lt.1
 intro hlt
 have h1:(t+1)*(4294967296*4294967296*P)≤u1*(4294967296*4294967296*P):=Int.mul_le_mul_of_nonneg_right (by omega) (by omega)
 have h2:0≤u0*(4294967296*P):=Int.mul_nonneg hu0.1 (by omega)
 have h3:0≤u2*P:=Int.mul_nonneg hu2.1 (by omega)
 have h4:d2*P≤4294967295*P:=Int.mul_le_mul_of_nonneg_right (by omega) (by omega)
 have h5:N=u1*(4294967296*4294967296*P)+u0*(4294967296*P)+u2*P+n':=by rw[hN];grind
 have h6:D=t*(4294967296*P)+d2*P+d':=by rw[hD];grind
 have h7:(t+1)*(4294967296*4294967296*P)=(t*(4294967296*P))*4294967296+4294967296*4294967296*P:=by grind
 omega
theorem Est.lower (h:Est P D N t d2 d' u1 u0 u2 n') {q r:Int} (hqr:q*t+r=u1*4294967296+u0) (hq0:0≤q) (hc:4294967295<q∨r*4294967296+u2<q*d2):N<q*D:=by
 obtain⟨hP,hD,hN,ht,hd2,hd',hu1,hu0,hu2,hn',hND⟩:=h
 have hDpos:0≤D:=by
  rw[hD]
  have:=Int.mul_nonneg (show 0≤t*4294967296+d2 by omega) (show 0≤P by omega)
  omega
 rcases hc with hc|hc
 ·have:4294967296*D≤q*D:=Int.mul_le_mul_of_nonneg_right (by omega) hDpos
  omega
 ·
  have h1:(r*4294967296+u2+1)*P≤q*d2*P:=Int.mul_le_mul_of_nonneg_right (by omega) (by omega)
  have h2:0≤q*d':=Int.mul_nonneg hq0 hd'.1
  have h3:q*D=q*t*(4294967296*P)+q*d2*P+q*d':=by rw[hD];grind
  have h4:N=(q*t+r)*(4294967296*P)+u2*P+n':=by rw[hN,hqr];grind
  have h5:(q*t+r)*(4294967296*P)=q*t*(4294967296*P)+r*4294967296*P:=by grind
  have h6:(r*4294967296+u2+1)*P=r*4294967296*P+u2*P+P:=by grind
  omega
theorem Est.close (h:Est P D N t d2 d' u1 u0 u2 n') {q r:Int} (hqr:q*t+r=u1*4294967296+u0) (hq:0≤q∧q≤4294967295) (hr:0≤r) (hc:4294967295<r∨q*d2≤r*4294967296+u2):(q - 1)*D≤N:=by
 obtain⟨hP,hD,hN,ht,hd2,hd',hu1,hu0,hu2,hn',hND⟩:=h
 have hc2:q*d2≤r*4294967296+u2:=by
  rcases hc with hc|hc
  ·have:=Int.mul_le_mul hq.2 (show d2≤4294967295 by omega) hd2.1 (by decide)
   omega
  ·exact hc
 have h1:q*d2*P≤(r*4294967296+u2)*P:=Int.mul_le_mul_of_nonneg_right hc2 (by omega)
 have h2:q*d'≤4294967295*d':=Int.mul_le_mul_of_nonneg_right hq.2 hd'.1
 have h3:q*D=q*t*(4294967296*P)+q*d2*P+q*d':=by rw[hD];grind
 have h4:N=(q*t+r)*(4294967296*P)+u2*P+n':=by rw[hN,hqr];grind
 have h5:(q*t+r)*(4294967296*P)=q*t*(4294967296*P)+r*4294967296*P:=by grind
 have h6:(r*4294967296+u2)*P=r*4294967296*P+u2*P:=by grind
 have h7:(q - 1)*D=q*D - D:=by grind
 have h8:2147483648*(4294967296*P)≤t*(4294967296*P):=Int.mul_le_mul_of_nonneg_right ht.1 (by omega)
 have h9:0≤d2*P:=Int.mul_nonneg hd2.1 (by omega)
 have h10:D=t*(4294967296*P)+d2*P+d':=by rw[hD];grind
 omega
end Go.Sx
namespace Go.Sx
set_option linter.unusedVariables false
theorem In.mono {K K':Nat→Prop} {a:AV} (h:In K a) (hk:∀ l,K l→K' l):In K' a:=by
 induction h with
 | any=>exact .any
 | lit v=>exact .lit v
 | agg cs _ ih=>exact .agg cs ih
 | tup cs _ ih=>exact .tup cs ih
 | sl es _ ih=>exact .sl es ih
 | fp cs _ ih=>exact .fp cs ih
 | clo f cs _ ih=>exact .clo f cs ih
 | loc l o h=>exact .loc l o (hk l h)
 | ref l o n m h=>exact .ref l o n m (hk l h)
 | vp l i j m h=>exact .vp l i j m (hk l h)
 | bs l o k n h=>exact .bs l o k n (hk l h)
 | zs=>exact .zs
 | mp l h=>exact .mp l (hk l h)
theorem InC.mono {K K':Nat→Prop} {a:AV} (h:InC K a) (hk:∀ l,K l→K' l):InC K' a:=by
 cases a<;>simp only[InC]at h ⊢
 ·exact fun c hc=>(h c hc).mono hk
 ·exact fun e he c hc=>(h e he c hc).mono hk
 ·exact hk _ h
 ·exact fun e he c hc=>(h e he c hc).mono hk
 ·exact fun c hc=>(h c hc).mono hk
theorem mH {P : Program} {f : Nat} {args : List AV} {i : Nat} {ob : Nat → AV} {E : Eff → Prop} (l : Nat) (a b r : AV) (hf : fnT P f = true) (hc : CallOK P f args [(l, a)] r [(l, b)]) (hob : ob l = a) (hin : ∀ x ∈ args, In (fun k => k = l) x)
  (ha:InC (fun _=>False) a) (hb:InC (fun _=>False) b) (hr:In (fun _=>False) r) (hl:a.live=true) (h:E ⟨r,[(l,b)],[l]⟩):callV P f args i ob E:=by
 refine .inr (.inl ⟨[(l,a)],r,[(l,b)],hf,hc,?_,?_,?_,by simp,hr,?_,by simp,?_,h⟩)
 ·intro p hp;simp only[List.mem_singleton]at hp;subst hp;exact hob
 ·intro x hx;exact (hin x hx).mono fun k hk=>by simp[hk]
 ·intro p hp;simp only[List.mem_singleton]at hp;subst hp;exact ha.mono fun k hk=>hk.elim
 ·intro p hp;simp only[List.mem_singleton]at hp;subst hp;exact⟨by simp,hb.mono fun k hk=>hk.elim⟩
 ·intro k hk
  simp only[List.map_cons,List.map_nil,List.mem_singleton]at hk
  subst hk
  rw[hob];exact hl
end Go.Sx
namespace Go.Sx
set_option linter.unusedVariables false
theorem vX (xs:List Int) (k:Nat) (h:k≤xs.length):wz xs=wz (xs.take k)+4294967296 ^ k*wz (xs.drop k):=by
 have:=pA (xs.take k) (xs.drop k)
 rw[List.take_append_drop]at this
 rw[this]
 congr 3
 simp;omega
theorem sE {n:Nat} {v:Int} (h0:0≤v) (h:v<4294967296 ^ n):wz (dgp n v.toNat)=v:=by
 rw[a8u]
 ·omega
 ·have e:((B32 ^ n:Nat):Int)=(4294967296:Int) ^ n:=by rw[Int.natCast_pow];rfl
  omega
theorem c1h {L n x:Nat} (h:n≤L):(dgp L x).take n=dgp n x:=by
 apply List.ext_getElem
 ·simp[fU];omega
 ·intro i h1 h2
  rw[List.getElem_take,nQ,nQ]
theorem c2y {xs:List Int} {n:Nat} (h:xs.length=n+2):wz xs=(xs.getD (n+1) 0*4294967296+xs.getD n 0)*4294967296 ^ n+wz (xs.take n):=by
 have e1:=cQ xs n
 have e2:=cQ xs (n+1)
 rw[dB (by omega)]at e2
 rw[e2,e1,Int.pow_succ]
 grind
theorem c2x {xs:List Int} {n:Nat} (h:xs.length=n+3):wz xs=((xs.getD (n+2) 0*4294967296+xs.getD (n+1) 0)*4294967296+xs.getD n 0)*4294967296 ^ n+wz (xs.take n):=by
 have e1:=cQ xs n
 have e2:=cQ xs (n+1)
 have e3:=cQ xs (n+1+1)
 rw[dB (by omega)]at e3
 rw[e3,e2,e1,Int.pow_succ,Int.pow_succ]
 grind
theorem sA {xs:List Int} (h:Dig xs) (n:Nat):wz (xs.take n)<4294967296 ^ n:=by
 have h1:=jJ (h.take n)
 by_cases hn:n≤xs.length
 ·have:(xs.take n).length=n:=by simp;omega
  rwa [this]at h1
 ·have h2:(xs.take n).length≤n:=by simp;omega
  have h3:(4294967296:Int) ^ (xs.take n).length≤4294967296 ^ n:=by
   have h4:=Nat.pow_le_pow_right (show 0<4294967296 by decide) h2
   have e1:((4294967296 ^ (xs.take n).length:Nat):Int)=(4294967296:Int) ^ (xs.take n).length:=by rw[Int.natCast_pow];rfl
   have e2:((4294967296 ^ n:Nat):Int)=(4294967296:Int) ^ n:=by rw[Int.natCast_pow];rfl
   omega
  omega
theorem c9h {E V : List Int} {n : Nat} (hE : E.length = n + 2) (hV : V.length = n + 3) (dE : Dig E) (dV : Dig V) (ht : 2147483648 ≤ E.getD (n + 1) 0) (hlt : wz V < wz E * 4294967296) :
  Est (4294967296 ^ n) (wz E) (wz V) (E.getD (n+1) 0) (E.getD n 0) (wz (E.take n)) (V.getD (n+2) 0) (V.getD (n+1) 0) (V.getD n 0) (wz (V.take n)) :=
 ⟨Int.pow_pos (by decide),c2y hE,c2x hV,⟨ht,(dE.getD _).2⟩,dE.getD _,⟨dH (dE.take n),sA dE n⟩,dV.getD _,dV.getD _,dV.getD _,⟨dH (dV.take n),sA dV n⟩,hlt⟩
theorem b9l {ds : List Int} {k n : Nat} (dd : Dig ds) (hn : ds.length = n + 1) (h0 : ds.getD n 0 ≠ 0) (hk : (32 : Int) - (bK (ds.getD n 0).toNat : Int) = (k : Int)) :
  0<wz ds∧wz ds*2 ^ k<4294967296 ^ (n+1)∧2147483648≤(dgp (n+1) (wz ds*2 ^ k).toNat).getD n 0:=by
 have hx:=dd.getD n
 have hxn:(ds.getD n 0).toNat≠0:=by omega
 have b1:=a8h (ds.getD n 0).toNat
 have b2:=a8i hxn
 have b3:1≤bK (ds.getD n 0).toNat:=by rw[pO hxn];omega
 have e:=cQ ds n
 rw[dB (by omega)]at e
 have t1:=sA dd n
 have t0:=dH (dd.take n)
 have hp:(0:Int)<4294967296 ^ n:=Int.pow_pos (by decide)
 have hk0:(0:Int)<2 ^ k:=Int.pow_pos (by decide)
 generalize hb:bK (ds.getD n 0).toNat=b at *
 have c1:ds.getD n 0+1≤2 ^ b:=by
  have e1:((2 ^ b:Nat):Int)=(2:Int) ^ b:=by rw[Int.natCast_pow];rfl
  omega
 have c2:(2:Int) ^ (b - 1)≤ds.getD n 0:=by
  have e1:((2 ^ (b - 1):Nat):Int)=(2:Int) ^ (b - 1):=by rw[Int.natCast_pow];rfl
  omega
 have hbk:b+k=32:=by omega
 have p1:(2:Int) ^ b*2 ^ k=4294967296:=by rw[← Int.pow_add,hbk];decide
 have p2:(2:Int) ^ (b - 1)*2 ^ k=2147483648:=by rw[← Int.pow_add,show b - 1+k=31 by omega];decide
 have hx1:1≤ds.getD n 0:=by omega
 have h1:4294967296 ^ n*1≤4294967296 ^ n*ds.getD n 0:=Int.mul_le_mul_of_nonneg_left hx1 (by omega)
 have hpos:0<wz ds:=by omega
 have hup:wz ds*2 ^ k<4294967296 ^ (n+1):=by
  have h2:wz ds+1≤4294967296 ^ n*(ds.getD n 0+1):=by rw[Int.mul_add,Int.mul_one];omega
  have h3:4294967296 ^ n*(ds.getD n 0+1)≤4294967296 ^ n*2 ^ b:=Int.mul_le_mul_of_nonneg_left c1 (by omega)
  have h4:(wz ds+1)*2 ^ k≤(4294967296 ^ n*2 ^ b)*2 ^ k:=Int.mul_le_mul_of_nonneg_right (by omega) (by omega)
  rw[Int.mul_assoc,p1,Int.add_mul,Int.one_mul]at h4
  rw[Int.pow_succ]
  omega
 refine⟨hpos,hup,?_⟩
 have hlo:4294967296 ^ n*2147483648≤wz ds*2 ^ k:=by
  have h2:4294967296 ^ n*2 ^ (b - 1)≤wz ds:=by
   have:=Int.mul_le_mul_of_nonneg_left c2 (Int.le_of_lt hp)
   omega
  have h3:=Int.mul_le_mul_of_nonneg_right h2 (Int.le_of_lt hk0)
  rwa [Int.mul_assoc,p2]at h3
 have hw:=sE (Int.le_of_lt (Int.mul_pos hpos hk0)) hup
 have dE:=lF (n+1) (wz ds*2 ^ k).toNat
 have lE:=fU (n+1) (wz ds*2 ^ k).toNat
 generalize dgp (n+1) (wz ds*2 ^ k).toNat=E at *
 have e2:=cQ E n
 rw[dB (by omega)]at e2
 have t2:=sA dE n
 apply Int.not_lt.1
 intro hlt
 have h5:4294967296 ^ n*E.getD n 0≤4294967296 ^ n*2147483647:=Int.mul_le_mul_of_nonneg_left (by omega) (by omega)
 omega
end Go.Sx
namespace Go.Sx
set_option linter.unusedVariables false
def Un (P:Program) (nt:Nat) (R:AS→Prop) (x:Code) (k:List Itm):Nat→AS→Prop
 | 0,_=>False
 | n+1,S=>AW P nt R (.code x::.stop (Un P nt R x k n)::k) S
variable {P:Program} {nt:Nat} {R:AS→Prop} {k:List Itm} {S:AS} {x:Code}
theorem dJ (n:Nat) (h:Un P nt R x k n S):AW P nt R (.code (.loop x)::k) S:=by
 intro c a w hP hs
 refine wpIn_loop_rounds n ?_
 have key:∀ n (S:AS) (c':Cx) (a:Act) (w:World),Un P nt R x k n S→Le c c'→Sim c' nt S a w→Code.roundsIn (Fw c.ro) 0 P x (iX c nt (Qof P nt R k)) n a w:=by
  intro n
  induction n with
  | zero=>intro S c' a w h;exact h.elim
  | succ n ih =>
   intro S c' a w h hl hs
   rw[roundsIn_succ]
   refine wpIn_mono (AWp.le h hl hP hs) ?_
   intro e a' w' hq
   cases e<;>simp only[Exit.then]<;>simp only[iX]at hq ⊢<;>(try exact hq)
   obtain⟨c2,S',hl2,h1,h3⟩:=hq
   exact ih S' c2 a' w' h1 hl2 h3
 exact key n S c a w h (.refl c) hs
theorem Un.next {n:Nat} (h:AW P nt R (.code x::.stop (Un P nt R x k n)::k) S):Un P nt R x k (n+1) S:=h
theorem zV {n:Nat} {R':AS→Prop} {k':List Itm} (h:Un P nt R x k n S):AW P nt R' (.stop (Un P nt R x k n)::k') S:=AW.stop h
end Go.Sx
