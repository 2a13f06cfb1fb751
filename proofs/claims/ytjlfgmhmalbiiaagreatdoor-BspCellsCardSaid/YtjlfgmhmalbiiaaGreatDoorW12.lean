import Derived.LoopNIn
import Derived.Test.YtjlfgmhmalbiiaaGreatDoorW11
set_option linter.all false
open Array renaming getD_eq_getD_getElem? → Ai, length_toList → A9
open Int renaming mul_le_mul_of_nonneg_right → Aa, mul_le_mul_of_nonneg_left → Ac, mul_nonneg → Ae, pow_succ → Aj, pow_pos → An, emod_eq_of_lt → Aq, fdiv_eq_ediv_of_nonneg → At, emod_lt_of_pos → Au, add_mul_emod_self_left → Av, ediv_lt_iff_lt_mul → A3, emod_nonneg → A4, mul_ediv_add_emod → A7, mul_assoc → Bb, mul_comm → Be, le_of_lt → Bf, pow_add → Bl, mul_le_mul → Bo, mul_add → Bt, mul_one → Bu, add_mul → Bv, not_lt → Bx
open List renaming getD_eq_getElem?_getD → Ab, take_succ_eq_append_getElem → Af, take_of_length_le → Ah, getElem?_eq_getElem → Ak, mem_singleton → Al, getElem?_eq_none → Ar, length_cons → As, drop_eq_getElem_cons → Aw, length_take → Az, take_append_drop → A6, map_cons → Ba, ext_getElem → Bh, replicate → Bn, map_nil → Bp
open Nat renaming pow_le_pow_right → Ad, lt_of_le_of_lt → Ag, pow_pos → Am, div_div_eq_div_mul → Ao, pow_succ → Ap, pow_succ' → Ax, pow_lt_pow_iff_right → Ay, div_lt_iff_lt_mul → A5, mul_le_mul_right → A8, lt_of_lt_of_le → Bc, mul_mod_left → Bg, div_eq_of_lt → Bi, lt_of_not_le → Bj, le_refl → Bk, strongRecOn → Bm, pow_mul → Bq, add_mul → Br, mod_lt → Bw
namespace Go.Sx
set_option linter.unusedVariables false
theorem xQ (m:ByteArray) (i:Nat) (h:i<m.data.toList.length):bt m i=(m.data.toList[i].toNat:Int):=by
 unfold bt
 have h2:i<m.data.size:=by rw[A9]at h;exact h
 simp only[Ai,Array.getElem?_eq_getElem h2,Option.getD_some,Array.getElem_toList]
theorem b6s (m : ByteArray) (L i : Nat) (hi : i < m.size) (hL : i / 4 < L) :
  (dgp L (nvL (m.data.toList.take i))).set (i / 4) (IntKind.u32.wrap ((BitVec.ofInt IntKind.u32.bits ((dgp L (nvL (m.data.toList.take i))).getD (i / 4) 0) |||
   BitVec.ofInt IntKind.u32.bits (IntKind.u32.wrap (bt m i*2 ^ min (8*((i:Int) % 4)).toNat 32))).toNat:Int))=dgp L (nvL (m.data.toList.take (i+1))):=by
 have hl:i<m.data.toList.length:=by rw[← qE];exact hi
 rw[xQ m i hl,a2h _ _ hl]
 have hx:nvL (m.data.toList.take i)<256 ^ i:=by
  have:=xJ (m.data.toList.take i)
  have e:(m.data.toList.take i).length=i:=by simp only[Az];omega
  rwa [e]at this
 generalize nvL (m.data.toList.take i)=x at *
 have hb:=(m.data.toList[i]).toNat_lt
 generalize (m.data.toList[i]).toNat=b at *
 rw[c2l hx hb hL,c2m hL]
 congr 1
 have hmin:min (8*((i:Int) % 4)).toNat 32=8*(i % 4):=by omega
 rw[hmin]
 have hp:(2:Int) ^ (8*(i % 4))=((256 ^ (i % 4):Nat):Int):=by
  rw[show (256:Nat)=2 ^ 8 from rfl,← Bq];norm_cast
 rw[hp]
 have hr:i % 4<4:=Bw _ (by decide)
 have hd:x / B32 ^ (i / 4) % B32<256 ^ (i % 4):=by
  have hi4:i=4*(i / 4)+i % 4:=by omega
  have hB:256 ^ i=B32 ^ (i / 4)*256 ^ (i % 4):=by rw[tZ,← Nat.pow_add];congr 1
  have h1:x / B32 ^ (i / 4)<256 ^ (i % 4):=by
   rw[A5 (Am (by decide)),Nat.mul_comm,← hB];exact hx
  exact Ag (Nat.mod_le _ _) h1
 generalize x / B32 ^ (i / 4) % B32=d at *
 have hcast:((b:Int)*((256 ^ (i % 4):Nat):Int))=((b*256 ^ (i % 4):Nat):Int):=by norm_cast
 rw[hcast]
 have h5:b*256 ^ (i % 4)+256 ^ (i % 4)≤256 ^ 4:=by
  have h1:(b+1)*256 ^ (i % 4)≤256*256 ^ (i % 4):=A8 _ (by omega)
  have h2:256*256 ^ (i % 4)≤256 ^ 4:=by
   rw[← Ax];exact Ad (by decide) (by omega)
  rw[Br]at h1;omega
 have h6:(256:Nat) ^ 4=4294967296:=by decide
 have hpos:0<256 ^ (i % 4):=Am (by decide)
 rw[a0c (n:=((b*256 ^ (i % 4):Nat):Int)) (by omega) (by omega)]
 have hp2:(2:Int) ^ (8*(i % 4))=((256 ^ (i % 4):Nat):Int):=hp
 refine (uA (a:=(d:Int)) (b:=((b*256 ^ (i % 4):Nat):Int)) (j:=8*(i % 4)) (by omega) (by rw[hp2];omega) (by omega) ?_ ?_ rfl).trans ?_
 ·rw[hp2]
  have:((b*256 ^ (i % 4):Nat):Int) % ((256 ^ (i % 4):Nat):Int)=((b*256 ^ (i % 4) % 256 ^ (i % 4):Nat):Int):=by norm_cast
  rw[this,Bg];rfl
 ·show _<(2:Int) ^ 32
  have:(2:Int) ^ 32=4294967296:=by decide
  rw[this]
  generalize b*256 ^ (i % 4)=q at *
  omega
 ·rfl
theorem a2t (c:ByteArray) {i:Nat} (h:c.size≤i):nvL (c.data.toList.take i)=nv c:=by
 rw[Ah (by rw[← qE];exact h)];rfl
def wv:List Int→Nat
 | []=>0
 | d::l=>d.toNat+B32*wv l
def le4 (d:Int):List Int:=[d % 256,d / 256 % 256,d / 65536 % 256,d / 16777216 % 256]
def by4 (xs:List Int):List Int:=xs.flatMap le4
theorem c2y (xs:List Int) (i:Nat) (h:i<xs.length):by4 (xs.take (i+1))=by4 (xs.take i)++le4 (xs.getD i 0):=by
 unfold by4
 rw[Af h,List.flatMap_append]
 simp[List.getD,Ak h]
theorem c1j (d:Int) (k:Nat) (hd:0≤d) (hd2:d<4294967296) (hk:k<4):(le4 d).take (k+1)=(le4 d).take k++[IntKind.u8.wrap (d.fdiv (2 ^ min (8*k) 32))]:=by
 have hw:∀ z:Int,IntKind.u8.wrap z=z % 256:=fun z=>by simp[IntKind.wrap,IntKind.bits,IntKind.signed]
 rw[hw]
 rw[At _ (by have:(0:Int)<2 ^ min (8*k) 32:=An (by decide);omega)]
 match k,hk with
 | 0,_=>simp[le4]
 | 1,_=>simp[le4]
 | 2,_=>simp[le4]
 | 3,_=>simp[le4]
def ofI (l:List Int):List UInt8:=l.map fun z=>UInt8.ofNat z.toNat
theorem iC (l:List Int) (h:∀ z∈l,0≤z∧z<256):aG .u8 l=(ofI l).map rT:=by
 induction l with
 | nil=>rfl
 | cons z l ih =>
  have h1:=h z (by simp)
  have h2:=ih fun z hz=>h z (by simp[hz])
  simp only[aG,ofI,Ba]at *
  rw[h2]
  simp only[encI,rT]
  congr 3
  simp
  omega
theorem c2z (xs:List Int):∀ z∈by4 xs,0≤z∧z<256:=by
 intro z hz
 simp only[by4,List.mem_flatMap]at hz
 obtain⟨d,_,hz⟩:=hz
 simp only[le4,List.mem_cons,List.not_mem_nil,or_false]at hz
 rcases hz with rfl|rfl|rfl|rfl<;>omega
theorem c9k (xs:List Int) (h:∀ x∈xs,0≤x∧x<4294967296):nvL (ofI (by4 xs))=wv xs:=by
 induction xs with
 | nil=>rfl
 | cons x xs ih =>
  have h1:=h x (by simp)
  have h2:=ih fun z hz=>h z (by simp[hz])
  have e:ofI (by4 (x::xs))=ofI (le4 x)++ofI (by4 xs):=by simp[by4,ofI]
  rw[e,vK,h2]
  simp only[ofI,le4,Ba,Bp,nvL,wv,As,List.length_nil]
  obtain⟨n,rfl⟩:=Int.eq_ofNat_of_zero_le h1.1
  have hn:n<4294967296:=by omega
  have e0:((n:Int) % 256).toNat=n % 256:=by omega
  have e1:((n:Int) / 256 % 256).toNat=n / 256 % 256:=by omega
  have e2:((n:Int) / 65536 % 256).toNat=n / 65536 % 256:=by omega
  have e3:((n:Int) / 16777216 % 256).toNat=n / 16777216 % 256:=by omega
  simp only[e0,e1,e2,e3,UInt8.toNat_ofNat',Nat.reducePow,Nat.mod_mod,Int.toNat_natCast]
  have hB0:B32=4294967296:=rfl
  rw[hB0]
  omega
end Go.Sx
namespace Go.Sx
set_option linter.unusedVariables false
def wz:List Int→Int
 | []=>0
 | d::l=>d+4294967296*wz l
def Dig (xs:List Int):Prop:=∀ x∈xs,0≤x∧x<4294967296
theorem rA {xs:List Int} (h:Dig xs):(wv xs:Int)=wz xs:=by
 induction xs with
 | nil=>rfl
 | cons x xs ih =>
  have h1:=h x (by simp)
  have h2:=ih fun z hz=>h z (by simp[hz])
  simp only[wv,wz,Int.natCast_add,Int.natCast_mul,h2]
  have hB0:(B32:Int)=4294967296:=rfl
  rw[hB0]
  omega
theorem pH (a b:List Int):wz (a++b)=wz a+4294967296 ^ a.length*wz b:=by
 induction a with
 | nil=>simp[wz]
 | cons x a ih =>
  simp only[List.cons_append,wz,ih,As,Aj]
  grind
theorem Dig.getD {xs:List Int} (h:Dig xs) (i:Nat):0≤xs.getD i 0∧xs.getD i 0<4294967296:=by
 rw[Ab]
 by_cases hi:i<xs.length
 ·rw[Ak hi];exact h _ (List.getElem_mem _)
 ·rw[Ar (by omega)];simp
theorem cN (xs:List Int) (i:Nat):wz (xs.take (i+1))=wz (xs.take i)+4294967296 ^ i*xs.getD i 0:=by
 by_cases h:i<xs.length
 ·rw[Af h,pH]
  have hl:(xs.take i).length=i:=by simp;omega
  rw[hl,Ab,Ak h]
  simp[wz]
 ·rw[Ah (by omega),Ah (by omega),Ab,Ar (by omega)]
  simp
theorem b2o {xs:List Int} {i:Nat} (h:i<xs.length) (d:Int):(xs.set i d).take (i+1)=xs.take i++[d]:=by
 rw[Af (by simpa using h)]
 simp[List.take_set_of_le]
theorem jQ {xs:List Int} {i:Nat} (h:i<xs.length) (d:Int):wz ((xs.set i d).take (i+1))=wz (xs.take i)+4294967296 ^ i*d:=by
 rw[b2o h,pH]
 have hl:(xs.take i).length=i:=by simp;omega
 rw[hl];simp[wz]
theorem Dig.set {xs:List Int} (h:Dig xs) {i:Nat} {d:Int} (hd:0≤d∧d<4294967296):Dig (xs.set i d):=by
 intro x hx
 rcases List.mem_or_eq_of_mem_set hx with hx|rfl
 ·exact h x hx
 ·exact hd
theorem Dig.rep (n:Nat):Dig (Bn n 0):=by
 intro x hx;rw[List.eq_of_mem_replicate hx];decide
theorem dT {xs:List Int} (h:Dig xs):0≤wz xs:=by rw[← rA h];omega
theorem jL {xs:List Int} (h:Dig xs):wz xs<4294967296 ^ xs.length:=by
 induction xs with
 | nil=>simp[wz]
 | cons x xs ih =>
  have h1:=h x (by simp)
  have h2:=ih fun z hz=>h z (by simp[hz])
  simp only[wz,As,Aj]
  omega
theorem Dig.take {xs:List Int} (h:Dig xs) (i:Nat):Dig (xs.take i):=fun x hx=>h x (List.mem_of_mem_take hx)
theorem Dig.drop {xs:List Int} (h:Dig xs) (i:Nat):Dig (xs.drop i):=fun x hx=>h x (List.mem_of_mem_drop hx)
theorem Dig.append {xs ys:List Int} (h:Dig xs) (h':Dig ys):Dig (xs++ys):=fun x hx=>by
 rcases List.mem_append.1 hx with hx|hx
 ·exact h x hx
 ·exact h' x hx
theorem lH (L x:Nat):Dig (dgp L x):=by
 intro d hd
 simp only[dgp,List.mem_map]at hd
 obtain⟨j,_,rfl⟩:=hd
 have hB0:B32=4294967296:=rfl
 have:=Bw (x / B32 ^ j) (show 0<B32 by decide)
 omega
theorem a6n (L x:Nat):dgp (L+1) x=((x % B32:Nat):Int)::dgp L (x / B32):=by
 apply Bh
 ·simp[fX]
 ·intro i h1 h2
  rw[nV]
  cases i with
  | zero=>simp
  | succ i =>
   simp only[List.getElem_cons_succ,nV]
   rw[Ax,Ao]
theorem a9g {L x:Nat} (h:x<B32 ^ L):wz (dgp L x)=x:=by
 induction L generalizing x with
 | zero =>
  have:x=0:=by simpa using h
  subst this
  rfl
 | succ L ih =>
  rw[a6n]
  simp only[wz]
  rw[ih (by rw[A5 (by decide)];rwa [Ap]at h)]
  have hB0:B32=4294967296:=rfl
  rw[hB0]
  omega
def lmN (n:Nat):List Int:=dgp (((nb n).size+3) / 4) n
theorem vM (n:Nat):(lmN n).length=((nb n).size+3) / 4:=fX _ _
theorem lG (n:Nat):Dig (lmN n):=lH _ _
theorem c9q (n:Nat):n<B32 ^ (((nb n).size+3) / 4):=by
 rw[tZ]
 exact Bc ((b9 n _).1 (Bk _)) (Ad (by decide) (by omega))
theorem lK (n:Nat):wz (lmN n)=n:=a9g (c9q n)
theorem a3s {n k:Nat} (h:n<B32 ^ k):(lmN n).length≤k:=by
 rw[vM]
 rw[tZ]at h
 have:=(b9 n _).2 h
 omega
theorem c1c:lmN 0=[]:=by
 apply List.eq_nil_of_length_eq_zero
 have:=a3s (n:=0) (k:=0) (by decide)
 omega
theorem iD (z:Int):IntKind.u32.wrap z=z % 4294967296:=by simp[IntKind.wrap,IntKind.bits,IntKind.signed]
theorem c6w (v:BitVec 32):BitVec.ofInt 32 (IntKind.u32.wrap (v.toNat:Int))=v:=by
 rw[iD]
 have:v.toNat<4294967296:=v.isLt
 rw[Aq (by omega) (by omega)]
 simp
theorem d0p (v:BitVec 32):(IntKind.u32.wrap (v.toNat:Int)).fdiv (2 ^ 31)=if v.msb then 1 else 0:=by
 rw[iD]
 have h1:v.toNat<4294967296:=v.isLt
 rw[Aq (by omega) (by omega),At _ (by decide),BitVec.msb_eq_decide]
 have e:(2:Int) ^ 31=2147483648:=by decide
 have e2:(2:Nat) ^ (32 - 1)=2147483648:=by decide
 rw[e,e2]
 by_cases h:2147483648≤v.toNat<;>simp[h]<;>omega
theorem c3a {x y b : Int} (hx : 0 ≤ x ∧ x < 4294967296) (hy : 0 ≤ y ∧ y < 4294967296) (hb : 0 ≤ b ∧ b ≤ 1) :
  (IntKind.u32.wrap ((BitVec.ofInt 32 (IntKind.u32.wrap ((BitVec.ofInt 32 (IntKind.u32.wrap ((BitVec.ofInt 32 IntKind.u32.max ^^^ BitVec.ofInt 32 x).toNat:Int)) &&& BitVec.ofInt 32 y).toNat:Int)) |||
   BitVec.ofInt 32 (IntKind.u32.wrap ((BitVec.ofInt 32 (IntKind.u32.wrap ((BitVec.ofInt 32 IntKind.u32.max ^^^ BitVec.ofInt 32 (IntKind.u32.wrap ((BitVec.ofInt 32 x ^^^ BitVec.ofInt 32 y).toNat:Int))).toNat:Int)) &&&
    BitVec.ofInt 32 (IntKind.u32.wrap (IntKind.u32.wrap (x - y) - b))).toNat:Int))).toNat:Int)).fdiv (2 ^ 31)=if x<y+b then 1 else 0:=by
 rw[d0p]
 simp only[c6w]
 have hmax:BitVec.ofInt 32 IntKind.u32.max=BitVec.allOnes 32:=by decide
 rw[hmax]
 have m1:∀ z:Int,0≤z→z<4294967296→(BitVec.ofInt 32 z).msb=decide (2147483648≤z):=by
  intro z h1 h2
  rw[BitVec.msb_eq_decide,BitVec.toNat_ofInt]
  have e:((z % ((2 ^ 32:Nat):Int)).toNat)=z.toNat:=by
   have:((2 ^ 32:Nat):Int)=4294967296:=by decide
   rw[this,Aq h1 h2]
  rw[e]
  have e2:(2:Nat) ^ (32 - 1)=2147483648:=by decide
  rw[e2]
  congr 1
  apply propext
  omega
 have hd:IntKind.u32.wrap (IntKind.u32.wrap (x - y) - b)=(x - y - b) % 4294967296:=by rw[iD,iD];omega
 rw[hd]
 simp only[BitVec.msb_or,BitVec.msb_and,BitVec.msb_xor,BitVec.msb_allOnes (w:=32) (by decide)]
 rw[m1 x hx.1 hx.2,m1 y hy.1 hy.2,m1 _ (by omega) (by omega)]
 by_cases c1:2147483648≤x<;>by_cases c2:2147483648≤y<;>by_cases c3:2147483648≤(x - y - b) % 4294967296<;>simp[c1,c2,c3]<;>omega
theorem j5 (m:ByteArray) (i:Nat):bt m i=((nv m / 256 ^ i % 256:Nat):Int):=by
 by_cases h:i<m.data.toList.length
 ·rw[xQ m i h]
  congr 1
  have e:=vK (m.data.toList.take i) (m.data.toList.drop i)
  rw[A6]at e
  have hl:(m.data.toList.take i).length=i:=by simp only[Az];omega
  have hlt:=xJ (m.data.toList.take i)
  rw[hl]at e hlt
  have:nv m=nvL m.data.toList:=rfl
  rw[this,e,Nat.add_mul_div_left _ _ (Am (by decide)),Bi hlt,Nat.zero_add,Aw h]
  simp only[nvL]
  have:=(m.data.toList[i]).toNat_lt
  omega
 ·have h2:nv m<256 ^ i:=Bc (eW m) (Ad (by decide) (by rw[qE];omega))
  rw[Bi h2]
  unfold bt
  have:m.data.size≤i:=by rw[A9]at h;omega
  simp[Ai,Array.getElem?_eq_none this]
def bN (a b:Nat):Int:=if a<b then -1 else if a=b then 0 else 1
theorem vL {p q:Nat} (h:(nb p).size<(nb q).size):p<q:=by
 apply Bj
 intro hqp
 have h1:=(b9 p _).1 (Bk _)
 have:=(b9 q (nb p).size).2 (Ag hqp h1)
 omega
theorem b7u (m : ByteArray) (i : Nat) (hi : i < m.size) (h8 : i < 8) :
  IntKind.u64.wrap ((BitVec.ofInt IntKind.u64.bits (nvL (m.data.toList.take i):Int) ||| BitVec.ofInt IntKind.u64.bits (IntKind.u64.wrap (bt m i*2 ^ min (8*(i:Int)).toNat 64))).toNat:Int)=(nvL (m.data.toList.take (i+1)):Int):=by
 have hl:i<m.data.toList.length:=by rw[← qE];exact hi
 rw[xQ m i hl,a2h _ _ hl]
 have hx:nvL (m.data.toList.take i)<256 ^ i:=by
  have:=xJ (m.data.toList.take i)
  have e:(m.data.toList.take i).length=i:=by simp only[Az];omega
  rwa [e]at this
 generalize nvL (m.data.toList.take i)=x at *
 have hb:=(m.data.toList[i]).toNat_lt
 generalize (m.data.toList[i]).toNat=b at *
 have hmin:min (8*(i:Int)).toNat 64=8*i:=by omega
 rw[hmin]
 have hp:(2:Int) ^ (8*i)=((256 ^ i:Nat):Int):=by
  rw[show (256:Nat)=2 ^ 8 from rfl,← Bq];norm_cast
 rw[hp]
 have hcast:((b:Int)*((256 ^ i:Nat):Int))=((b*256 ^ i:Nat):Int):=by norm_cast
 rw[hcast]
 have h5:b*256 ^ i+256 ^ i≤256 ^ 8:=by
  have h1:(b+1)*256 ^ i≤256*256 ^ i:=A8 _ (by omega)
  have h2:256*256 ^ i≤256 ^ 8:=by
   rw[← Ax];exact Ad (by decide) (by omega)
  rw[Br]at h1;omega
 have h6:(256:Nat) ^ 8=18446744073709551616:=by decide
 have hpos:0<256 ^ i:=Am (by decide)
 rw[wY (n:=((b*256 ^ i:Nat):Int)) (by omega) (by omega)]
 refine (uA (a:=(x:Int)) (b:=((b*256 ^ i:Nat):Int)) (j:=8*i) (by omega) (by rw[hp];omega) (by omega) ?_ ?_ rfl).trans ?_
 ·rw[hp]
  have:((b*256 ^ i:Nat):Int) % ((256 ^ i:Nat):Int)=((b*256 ^ i % 256 ^ i:Nat):Int):=by norm_cast
  rw[this,Bg];rfl
 ·show _<(2:Int) ^ 64
  have:(2:Int) ^ 64=18446744073709551616:=by decide
  rw[this]
  generalize b*256 ^ i=q at *
  omega
 ·norm_cast
theorem qC {p q k:Nat} (h:p / 256 ^ (k+1)=q / 256 ^ (k+1)):(p / 256 ^ k % 256<q / 256 ^ k % 256→p<q)∧(p / 256 ^ k % 256=q / 256 ^ k % 256→p / 256 ^ k=q / 256 ^ k):=by
 have e:∀ n:Nat,n / 256 ^ (k+1)=n / 256 ^ k / 256:=fun n=>by rw[Ap,Ao]
 rw[e,e]at h
 refine⟨fun hlt=>?_,fun heq=>by omega⟩
 apply Bj
 intro hqp
 have:=Nat.div_le_div_right (c:=256 ^ k) hqp
 omega
theorem c6p {a b:Nat}:bN a b<0↔a<b:=by unfold bN;split<;>(try split)<;>omega
theorem a5y {p q:Nat} (h:p≤q):(lmN p).length≤(lmN q).length:=by
 rw[vM,vM]
 have:=(b9 p (nb q).size).2 (Ag h ((b9 q _).1 (Bk _)))
 omega
theorem dF {xs:List Int} {n:Nat} (h:xs.length≤n):xs.take n=xs:=Ah h
theorem a9e {xs:List Int} {i:Nat} (h:i<xs.length) (d:Int):wz (xs.set i d)=wz xs+4294967296 ^ i*(d - xs.getD i 0):=by
 induction xs generalizing i with
 | nil=>simp at h
 | cons x xs ih =>
  cases i with
  | zero=>simp[wz];omega
  | succ i =>
   have hi:i<xs.length:=by simpa using h
   have e:(x::xs).getD (i+1) 0=xs.getD i 0:=by simp
   simp only[List.set_cons_succ,wz,ih hi,e,Aj]
   grind
theorem vB {xs:List Int} {i j:Nat} (h:i≠j) (d:Int):(xs.set i d).getD j 0=xs.getD j 0:=by
 simp[Ab,List.getElem?_set_ne h]
theorem a6b (n j:Nat):(List.replicate n (0:Int)).getD j 0=0:=by
 rw[Ab]
 by_cases h:j<n
 ·simp[h]
 ·rw[Ar (by simp;omega)];rfl
theorem a9f (n:Nat):wz (Bn n 0)=0:=by
 induction n with
 | zero=>rfl
 | succ n ih=>simp[List.replicate_succ,wz,ih]
end Go.Sx
namespace Go.Sx
set_option linter.unusedVariables false
def bJ (n:Nat):Nat:=if h:n=0 then 0 else bJ (n / 2)+1
termination_by n
decreasing_by omega
theorem vZ:bJ 0=0:=by rw[bJ];simp
theorem pT {n:Nat} (h:n≠0):bJ n=bJ (n / 2)+1:=by rw[bJ];simp[h]
theorem a8s (n:Nat):n<2 ^ bJ n:=by
 induction n using Bm with
 | _ n ih =>
  by_cases h:n=0
  ·subst h;simp[vZ]
  ·rw[pT h,Ap]
   have:=ih (n / 2) (by omega)
   omega
theorem a8t {n:Nat} (h:n≠0):2 ^ (bJ n - 1)≤n:=by
 induction n using Bm with
 | _ n ih =>
  rw[pT h,Nat.add_sub_cancel]
  by_cases h2:n / 2=0
  ·rw[h2,vZ];simp;omega
  ·have:=ih (n / 2) (by omega) h2
   have e:bJ (n / 2)=bJ (n / 2) - 1+1:=by have:=pT h2;omega
   rw[e,Ap]
   omega
theorem yX (n k:Nat) (h:2 ^ k≤n):bJ n=k+bJ (n / 2 ^ k):=by
 induction k generalizing n with
 | zero=>simp
 | succ k ih =>
  have hp:0<2 ^ k:=Am (by decide)
  have hn:n≠0:=by rw[Ap]at h;omega
  rw[pT hn,ih (n / 2) (by rw[Ap]at h;omega),Ax,Ao]
  omega
theorem oH {n k:Nat} (h:n<2 ^ k):bJ n≤k:=by
 by_cases hn:n=0
 ·subst hn;rw[vZ];omega
 ·have h1:=a8t hn
  have h2:2 ^ (bJ n - 1)<2 ^ k:=Ag h1 h
  have:=(Ay (show 1<2 by decide)).1 h2
  omega
theorem b7y {n k:Nat} (h:n<2 ^ k) (h2:(n=0∧k=0)∨(0<k∧2 ^ (k - 1)≤n)):bJ n=k:=by
 rcases h2 with⟨rfl,rfl⟩|⟨h0,h2⟩
 ·exact vZ
 ·have h3:=oH h
  have hn:n≠0:=by have:0<2 ^ (k - 1):=Am (by decide);omega
  have h4:2 ^ (k - 1)<2 ^ bJ n:=Ag h2 (a8s n)
  have:=(Ay (show 1<2 by decide)).1 h4
  omega
def b0x (l:List UInt8):Bool:=(List.range 256).all fun n=>decide (n<2 ^ (l.getD n 0).toNat)&&(decide (n=0∧(l.getD n 0).toNat=0)||decide (0<(l.getD n 0).toNat∧2 ^ ((l.getD n 0).toNat - 1)≤n))
theorem b9n {l:List UInt8} (h:b0x l=true) {n:Nat} (hn:n<256):bt ⟨l.toArray⟩ n=(bJ n:Int):=by
 have:=List.all_eq_true.1 h n (List.mem_range.2 hn)
 simp only[Bool.and_eq_true,Bool.or_eq_true,decide_eq_true_eq]at this
 rw[b7y this.1 this.2]
 unfold bt
 simp[Ai,Ab]
theorem c2i {xs:List Int} (h:Dig xs):xs=dgp xs.length (wz xs).toNat:=by
 induction xs with
 | nil=>rfl
 | cons x xs ih =>
  have h1:=h x (by simp)
  have h2:Dig xs:=fun z hz=>h z (by simp[hz])
  have h3:=dT h2
  rw[As,a6n]
  have hB0:B32=4294967296:=rfl
  have e1:(wz (x::xs)).toNat % B32=x.toNat:=by rw[hB0];simp only[wz];omega
  have e2:(wz (x::xs)).toNat / B32=(wz xs).toNat:=by rw[hB0];simp only[wz];omega
  rw[e1,e2,← ih h2]
  congr 1
  omega
theorem qT {xs:List Int} {n:Nat} {v:Int} (h:Dig xs) (hn:xs.length=n) (hv:wz xs=v):xs=dgp n v.toNat:=by
 rw[← hn,← hv];exact c2i h
theorem tE {k:Nat} (h:k≤31):(1:Int)≤2 ^ k∧(2:Int) ^ k≤2147483648:=by
 have h1:(2:Nat) ^ k≤2 ^ 31:=Ad (by decide) h
 have h2:0<(2:Nat) ^ k:=Am (by decide)
 have e:((2 ^ k:Nat):Int)=(2:Int) ^ k:=by norm_cast
 have e2:(2:Nat) ^ 31=2147483648:=by decide
 omega
theorem b4e {x d : Int} {k : Nat} (hk : k ≤ 31) (hx : 0 ≤ x ∧ x < 4294967296) (hd : 0 ≤ d ∧ d < 2 ^ k) :
  IntKind.u32.wrap ((BitVec.ofInt IntKind.u32.bits d ||| BitVec.ofInt IntKind.u32.bits (IntKind.u32.wrap (x*2 ^ k))).toNat:Int)=d+(x*2 ^ k) % 4294967296 ∧
  0≤d+(x*2 ^ k) % 4294967296∧d+(x*2 ^ k) % 4294967296<4294967296∧0≤x*2 ^ k∧x*2 ^ k<9223372036854775808∧0≤x*2 ^ k / 4294967296∧x*2 ^ k / 4294967296<2 ^ k:=by
 obtain⟨p1,p2⟩:=tE hk
 have e32:(2:Int) ^ IntKind.u32.bits=4294967296:=by decide
 have hsplit:(4294967296:Int)=2 ^ k*2 ^ (32 - k):=by
  rw[← Bl,show k+(32 - k)=32 by omega];decide
 have hmod:(x*2 ^ k) % 4294967296=2 ^ k*(x % 2 ^ (32 - k)):=by
  rw[hsplit,Be x,Int.mul_emod_mul_of_pos _ _ (by omega)]
 have hr:0≤x % 2 ^ (32 - k)∧x % 2 ^ (32 - k)<2 ^ (32 - k):=⟨A4 _ (by have:(0:Int)<2 ^ (32 - k):=An (by decide);omega),Au _ (An (by decide))⟩
 have hle:2 ^ k*(x % 2 ^ (32 - k))+2 ^ k≤4294967296:=by
  have:(2:Int) ^ k*(x % 2 ^ (32 - k)+1)≤2 ^ k*2 ^ (32 - k):=Ac (by omega) (by omega)
  rw[← hsplit,Bt,Bu]at this
  exact this
 have hnn:0≤2 ^ k*(x % 2 ^ (32 - k)):=Ae (by omega) hr.1
 have hx1:0≤x*2 ^ k:=Ae hx.1 (by omega)
 have hx2:x*2 ^ k≤4294967295*2147483648:=Bo (by omega) p2 (by omega) (by decide)
 refine⟨?_,by rw[hmod];omega,by rw[hmod];omega,hx1,by omega,by omega,?_⟩
 ·rw[iD (x*2 ^ k),uA (j:=k) hd.1 hd.2 (by omega) ?_ ?_ rfl]
  ·rw[hmod];exact Int.mul_emod_right _ _
  ·rw[e32,hmod];omega
 ·rw[A3 (by decide)]
  rw[Be]
  exact Int.mul_lt_mul_of_pos_left hx.2 (by omega)
theorem a2k {xs:List Int} {i:Nat} (h:i<xs.length) (d:Int):(xs.set i d).getD i 0=d:=by
 simp[Ab,h]
theorem a0b (xs:List Int) (j:Nat) (h:j<xs.length):wz (xs.drop j)=xs.getD j 0+4294967296*wz (xs.drop (j+1)):=by
 rw[Aw h]
 simp[wz,Ab,h]
theorem b2s {xs:List Int} {j:Nat} (d:Int):(xs.set j d).drop (j+1)=xs.drop (j+1):=by
 rw[List.drop_set_of_lt (by omega)]
theorem a2q {xs:List Int} {j:Nat} (h:j<xs.length) (d:Int):wz ((xs.set j d).drop j)=d+4294967296*wz (xs.drop (j+1)):=by
 rw[a0b _ _ (by simpa using h),a2k h,b2s]
theorem b2t {x y : Int} {k : Nat} (hk : k ≤ 31) (hx : 0 ≤ x ∧ x < 4294967296) (hy : 0 ≤ y ∧ y < 4294967296) :
  0≤(x+y*4294967296) / 2 ^ k∧(x+y*4294967296) / 2 ^ k≤x+y*4294967296 ∧
  (IntKind.u32.wrap ((x+y*4294967296) / 2 ^ k))*2 ^ k=x - x % 2 ^ k+4294967296*(y % 2 ^ k):=by
 obtain⟨p1,p2⟩:=tE hk
 have hsplit:(4294967296:Int)=2 ^ k*2 ^ (32 - k):=by
  rw[← Bl,show k+(32 - k)=32 by omega];decide
 have hm1:(0:Int)<2 ^ (32 - k):=An (by decide)
 generalize (2:Int) ^ k=c at *
 generalize (2:Int) ^ (32 - k)=m at *
 have hxm:=A7 x c
 have hym:=A7 y c
 have hx1:=A4 x (show c≠0 by omega)
 have hx2:=Au x (show 0<c by omega)
 have hy1:=A4 y (show c≠0 by omega)
 have hy2:=Au y (show 0<c by omega)
 have hq:(x+y*4294967296) / c=x / c+y*m:=by
  rw[hsplit,show x+y*(c*m)=x+c*(y*m) by grind,Int.add_mul_ediv_left _ _ (by omega)]
 have hxc:0≤x / c∧x / c<m:=by
  refine⟨Int.ediv_nonneg hx.1 (by omega),?_⟩
  rw[A3 (by omega),Be,← hsplit];exact hx.2
 have hym0:0≤y*m:=Ae hy.1 (by omega)
 have hmod:(x / c+y*m) % 4294967296=x / c+(y % c)*m:=by
  have e:x / c+y*m=(x / c+(y % c)*m)+4294967296*(y / c):=by rw[hsplit];grind
  rw[e,Av]
  apply Aq
  ·have:=Ae hy1 (show 0≤m by omega);omega
  ·have:(y % c+1)*m≤c*m:=Aa (by omega) (by omega)
   rw[Bv,← hsplit]at this
   omega
 refine⟨by rw[hq];omega,?_,?_⟩
 ·exact Int.ediv_le_self _ (by omega)
 ·rw[iD,hq,hmod]
  have h1:(x / c+y % c*m)*c=c*(x / c)+(c*m)*(y % c):=by grind
  rw[h1,← hsplit]
  omega
theorem a1y {x y : Int} (hx : 0 ≤ x ∧ x < 4294967296) (hy : 0 ≤ y ∧ y < 4294967296) :
  IntKind.u64.wrap ((BitVec.ofInt IntKind.u64.bits x ||| BitVec.ofInt IntKind.u64.bits (y*4294967296)).toNat:Int)=x+y*4294967296:=by
 have e:(2:Int) ^ 32=4294967296:=by decide
 have e64:(2:Int) ^ IntKind.u64.bits=18446744073709551616:=by decide
 rw[uA (a:=x) (b:=y*4294967296) (j:=32) (by omega) (by omega) (by omega) (by omega) (by rw[e64];omega) rfl]
theorem c5n {xs:List Int} {k:Nat} (hk:k≤31):wz xs % 2 ^ k=xs.getD 0 0 % 2 ^ k:=by
 cases xs with
 | nil=>simp[wz]
 | cons x xs =>
  have hsplit:(4294967296:Int)=2 ^ k*2 ^ (32 - k):=by
   rw[← Bl,show k+(32 - k)=32 by omega];decide
  simp only[wz,List.getD_cons_zero]
  rw[hsplit,Bb,Av]
theorem jX {A V C:List Int} {i:Nat} (h:i<V.length):(A++(V++C)).getD (A.length+i) 0=V.getD i 0:=by
 simp only[Ab]
 rw[List.getElem?_append_right (by omega),List.getElem?_append_left (by omega)]
 simp
theorem mY {A V C:List Int} {i:Nat} (h:i<V.length) (d:Int):(A++(V++C)).set (A.length+i) d=A++(V.set i d++C):=by
 rw[List.set_append_right _ _ (by omega),List.set_append_left _ _ (by omega)]
 simp
theorem kY {K:Nat→Prop} (k:IntKind) (xs:List Int):InC K (.vec 1 (aG k xs)):=by
 simp only[InC,jH]
end Go.Sx
namespace Go.Sx
set_option linter.unusedVariables false
structure Est (P D N t d2 d' u1 u0 u2 n':Int):Prop where
 hP:0<P
 hD:D=(t*4294967296+d2)*P+d'
 hN:N=((u1*4294967296+u0)*4294967296+u2)*P+n'
 ht:2147483648≤t∧t<4294967296
 hd2:0≤d2∧d2<4294967296
 hd':0≤d'∧d'<P
 hu1:0≤u1∧u1<4294967296
 hu0:0≤u0∧u0<4294967296
 hu2:0≤u2∧u2<4294967296
 hn':0≤n'∧n'<P
 hND:N<D*4294967296
variable {P D N t d2 d' u1 u0 u2 n':Int}
theorem Est.u1_le (h:Est P D N t d2 d' u1 u0 u2 n'):u1≤t:=by
 obtain⟨hP,hD,hN,ht,hd2,hd',hu1,hu0,hu2,hn',hND⟩:=h
 apply Bx.1
 intro hlt
 have h1:(t+1)*(4294967296*4294967296*P)≤u1*(4294967296*4294967296*P):=Aa (by omega) (by omega)
 have h2:0≤u0*(4294967296*P):=Ae hu0.1 (by omega)
 have h3:0≤u2*P:=Ae hu2.1 (by omega)
 have h4:d2*P≤4294967295*P:=Aa (by omega) (by omega)
 have h5:N=u1*(4294967296*4294967296*P)+u0*(4294967296*P)+u2*P+n':=by rw[hN];grind
 have h6:D=t*(4294967296*P)+d2*P+d':=by rw[hD];grind
 have h7:(t+1)*(4294967296*4294967296*P)=(t*(4294967296*P))*4294967296+4294967296*4294967296*P:=by grind
 omega
theorem Est.lower (h:Est P D N t d2 d' u1 u0 u2 n') {q r:Int} (hqr:q*t+r=u1*4294967296+u0) (hq0:0≤q) (hc:4294967295<q∨r*4294967296+u2<q*d2):N<q*D:=by
 obtain⟨hP,hD,hN,ht,hd2,hd',hu1,hu0,hu2,hn',hND⟩:=h
 have hDpos:0≤D:=by
  rw[hD]
  have:=Ae (show 0≤t*4294967296+d2 by omega) (show 0≤P by omega)
  omega
 rcases hc with hc|hc
 ·have:4294967296*D≤q*D:=Aa (by omega) hDpos
  omega
 ·
  have h1:(r*4294967296+u2+1)*P≤q*d2*P:=Aa (by omega) (by omega)
  have h2:0≤q*d':=Ae hq0 hd'.1
  have h3:q*D=q*t*(4294967296*P)+q*d2*P+q*d':=by rw[hD];grind
  have h4:N=(q*t+r)*(4294967296*P)+u2*P+n':=by rw[hN,hqr];grind
  have h5:(q*t+r)*(4294967296*P)=q*t*(4294967296*P)+r*4294967296*P:=by grind
  have h6:(r*4294967296+u2+1)*P=r*4294967296*P+u2*P+P:=by grind
  omega
theorem Est.close (h:Est P D N t d2 d' u1 u0 u2 n') {q r:Int} (hqr:q*t+r=u1*4294967296+u0) (hq:0≤q∧q≤4294967295) (hr:0≤r) (hc:4294967295<r∨q*d2≤r*4294967296+u2):(q - 1)*D≤N:=by
 obtain⟨hP,hD,hN,ht,hd2,hd',hu1,hu0,hu2,hn',hND⟩:=h
 have hc2:q*d2≤r*4294967296+u2:=by
  rcases hc with hc|hc
  ·have:=Bo hq.2 (show d2≤4294967295 by omega) hd2.1 (by decide)
   omega
  ·exact hc
 have h1:q*d2*P≤(r*4294967296+u2)*P:=Aa hc2 (by omega)
 have h2:q*d'≤4294967295*d':=Aa hq.2 hd'.1
 have h3:q*D=q*t*(4294967296*P)+q*d2*P+q*d':=by rw[hD];grind
 have h4:N=(q*t+r)*(4294967296*P)+u2*P+n':=by rw[hN,hqr];grind
 have h5:(q*t+r)*(4294967296*P)=q*t*(4294967296*P)+r*4294967296*P:=by grind
 have h6:(r*4294967296+u2)*P=r*4294967296*P+u2*P:=by grind
 have h7:(q - 1)*D=q*D - D:=by grind
 have h8:2147483648*(4294967296*P)≤t*(4294967296*P):=Aa ht.1 (by omega)
 have h9:0≤d2*P:=Ae hd2.1 (by omega)
 have h10:D=t*(4294967296*P)+d2*P+d':=by rw[hD];grind
 omega
end Go.Sx
namespace Go.Sx
set_option linter.unusedVariables false
theorem In.mono {K K':Nat→Prop} {a:AV} (h:In K a) (hk:∀ l,K l→K' l):In K' a:=by
 induction h with
 | any=>exact .any
 | lit v=>exact .lit v
 | agg cs _ ih=>exact .agg cs ih
 | tup cs _ ih=>exact .tup cs ih
 | sl es _ ih=>exact .sl es ih
 | fp cs _ ih=>exact .fp cs ih
 | clo f cs _ ih=>exact .clo f cs ih
 | loc l o h=>exact .loc l o (hk l h)
 | ref l o n m h=>exact .ref l o n m (hk l h)
 | vp l i j m h=>exact .vp l i j m (hk l h)
 | bs l o k n h=>exact .bs l o k n (hk l h)
 | zs=>exact .zs
 | mp l h=>exact .mp l (hk l h)
theorem InC.mono {K K':Nat→Prop} {a:AV} (h:InC K a) (hk:∀ l,K l→K' l):InC K' a:=by
 cases a<;>simp only[InC]at h ⊢
 ·exact fun c hc=>(h c hc).mono hk
 ·exact fun e he c hc=>(h e he c hc).mono hk
 ·exact hk _ h
 ·exact fun e he c hc=>(h e he c hc).mono hk
 ·exact fun c hc=>(h c hc).mono hk
theorem mH {P : Program} {f : Nat} {args : List AV} {i : Nat} {ob : Nat → AV} {E : Eff → Prop} (l : Nat) (a b r : AV) (hf : fnT P f = true) (hc : CallOK P f args [(l, a)] r [(l, b)]) (hob : ob l = a) (hin : ∀ x ∈ args, In (fun k => k = l) x)
  (ha:InC (fun _=>False) a) (hb:InC (fun _=>False) b) (hr:In (fun _=>False) r) (hl:a.live=true) (h:E ⟨r,[(l,b)],[l]⟩):callV P f args i ob E:=by
 refine .inr (.inl ⟨[(l,a)],r,[(l,b)],hf,hc,?_,?_,?_,by simp,hr,?_,by simp,?_,h⟩)
 ·intro p hp;simp only[Al]at hp;subst hp;exact hob
 ·intro x hx;exact (hin x hx).mono fun k hk=>by simp[hk]
 ·intro p hp;simp only[Al]at hp;subst hp;exact ha.mono fun k hk=>hk.elim
 ·intro p hp;simp only[Al]at hp;subst hp;exact⟨by simp,hb.mono fun k hk=>hk.elim⟩
 ·intro k hk
  simp only[Ba,Bp,Al]at hk
  subst hk
  rw[hob];exact hl
end Go.Sx
namespace Go.Sx
set_option linter.unusedVariables false
theorem wB (xs:List Int) (k:Nat) (h:k≤xs.length):wz xs=wz (xs.take k)+4294967296 ^ k*wz (xs.drop k):=by
 have:=pH (xs.take k) (xs.drop k)
 rw[A6]at this
 rw[this]
 congr 3
 simp;omega
theorem sP {n:Nat} {v:Int} (h0:0≤v) (h:v<4294967296 ^ n):wz (dgp n v.toNat)=v:=by
 rw[a9g]
 ·omega
 ·have e:((B32 ^ n:Nat):Int)=(4294967296:Int) ^ n:=by rw[Int.natCast_pow];rfl
  omega
theorem c2k {L n x:Nat} (h:n≤L):(dgp L x).take n=dgp n x:=by
 apply Bh
 ·simp[fX];omega
 ·intro i h1 h2
  rw[List.getElem_take,nV,nV]
theorem c3x {xs:List Int} {n:Nat} (h:xs.length=n+2):wz xs=(xs.getD (n+1) 0*4294967296+xs.getD n 0)*4294967296 ^ n+wz (xs.take n):=by
 have e1:=cN xs n
 have e2:=cN xs (n+1)
 rw[dF (by omega)]at e2
 rw[e2,e1,Aj]
 grind
theorem c3w {xs:List Int} {n:Nat} (h:xs.length=n+3):wz xs=((xs.getD (n+2) 0*4294967296+xs.getD (n+1) 0)*4294967296+xs.getD n 0)*4294967296 ^ n+wz (xs.take n):=by
 have e1:=cN xs n
 have e2:=cN xs (n+1)
 have e3:=cN xs (n+1+1)
 rw[dF (by omega)]at e3
 rw[e3,e2,e1,Aj,Aj]
 grind
theorem sL {xs:List Int} (h:Dig xs) (n:Nat):wz (xs.take n)<4294967296 ^ n:=by
 have h1:=jL (h.take n)
 by_cases hn:n≤xs.length
 ·have:(xs.take n).length=n:=by simp;omega
  rwa [this]at h1
 ·have h2:(xs.take n).length≤n:=by simp;omega
  have h3:(4294967296:Int) ^ (xs.take n).length≤4294967296 ^ n:=by
   have h4:=Ad (show 0<4294967296 by decide) h2
   have e1:((4294967296 ^ (xs.take n).length:Nat):Int)=(4294967296:Int) ^ (xs.take n).length:=by rw[Int.natCast_pow];rfl
   have e2:((4294967296 ^ n:Nat):Int)=(4294967296:Int) ^ n:=by rw[Int.natCast_pow];rfl
   omega
  omega
theorem d0f {E V : List Int} {n : Nat} (hE : E.length = n + 2) (hV : V.length = n + 3) (dE : Dig E) (dV : Dig V) (ht : 2147483648 ≤ E.getD (n + 1) 0) (hlt : wz V < wz E * 4294967296) :
  Est (4294967296 ^ n) (wz E) (wz V) (E.getD (n+1) 0) (E.getD n 0) (wz (E.take n)) (V.getD (n+2) 0) (V.getD (n+1) 0) (V.getD n 0) (wz (V.take n)) :=
 ⟨An (by decide),c3x hE,c3w hV,⟨ht,(dE.getD _).2⟩,dE.getD _,⟨dT (dE.take n),sL dE n⟩,dV.getD _,dV.getD _,dV.getD _,⟨dT (dV.take n),sL dV n⟩,hlt⟩
theorem c0l {ds : List Int} {k n : Nat} (dd : Dig ds) (hn : ds.length = n + 1) (h0 : ds.getD n 0 ≠ 0) (hk : (32 : Int) - (bJ (ds.getD n 0).toNat : Int) = (k : Int)) :
  0<wz ds∧wz ds*2 ^ k<4294967296 ^ (n+1)∧2147483648≤(dgp (n+1) (wz ds*2 ^ k).toNat).getD n 0:=by
 have hx:=dd.getD n
 have hxn:(ds.getD n 0).toNat≠0:=by omega
 have b1:=a8s (ds.getD n 0).toNat
 have b2:=a8t hxn
 have b3:1≤bJ (ds.getD n 0).toNat:=by rw[pT hxn];omega
 have e:=cN ds n
 rw[dF (by omega)]at e
 have t1:=sL dd n
 have t0:=dT (dd.take n)
 have hp:(0:Int)<4294967296 ^ n:=An (by decide)
 have hk0:(0:Int)<2 ^ k:=An (by decide)
 generalize hb:bJ (ds.getD n 0).toNat=b at *
 have c1:ds.getD n 0+1≤2 ^ b:=by
  have e1:((2 ^ b:Nat):Int)=(2:Int) ^ b:=by rw[Int.natCast_pow];rfl
  omega
 have c2:(2:Int) ^ (b - 1)≤ds.getD n 0:=by
  have e1:((2 ^ (b - 1):Nat):Int)=(2:Int) ^ (b - 1):=by rw[Int.natCast_pow];rfl
  omega
 have hbk:b+k=32:=by omega
 have p1:(2:Int) ^ b*2 ^ k=4294967296:=by rw[← Int.pow_add,hbk];decide
 have p2:(2:Int) ^ (b - 1)*2 ^ k=2147483648:=by rw[← Int.pow_add,show b - 1+k=31 by omega];decide
 have hx1:1≤ds.getD n 0:=by omega
 have h1:4294967296 ^ n*1≤4294967296 ^ n*ds.getD n 0:=Ac hx1 (by omega)
 have hpos:0<wz ds:=by omega
 have hup:wz ds*2 ^ k<4294967296 ^ (n+1):=by
  have h2:wz ds+1≤4294967296 ^ n*(ds.getD n 0+1):=by rw[Bt,Bu];omega
  have h3:4294967296 ^ n*(ds.getD n 0+1)≤4294967296 ^ n*2 ^ b:=Ac c1 (by omega)
  have h4:(wz ds+1)*2 ^ k≤(4294967296 ^ n*2 ^ b)*2 ^ k:=Aa (by omega) (by omega)
  rw[Bb,p1,Bv,Int.one_mul]at h4
  rw[Aj]
  omega
 refine⟨hpos,hup,?_⟩
 have hlo:4294967296 ^ n*2147483648≤wz ds*2 ^ k:=by
  have h2:4294967296 ^ n*2 ^ (b - 1)≤wz ds:=by
   have:=Ac c2 (Bf hp)
   omega
  have h3:=Aa h2 (Bf hk0)
  rwa [Bb,p2]at h3
 have hw:=sP (Bf (Int.mul_pos hpos hk0)) hup
 have dE:=lH (n+1) (wz ds*2 ^ k).toNat
 have lE:=fX (n+1) (wz ds*2 ^ k).toNat
 generalize dgp (n+1) (wz ds*2 ^ k).toNat=E at *
 have e2:=cN E n
 rw[dF (by omega)]at e2
 have t2:=sL dE n
 apply Bx.1
 intro hlt
 have h5:4294967296 ^ n*E.getD n 0≤4294967296 ^ n*2147483647:=Ac (by omega) (by omega)
 omega
end Go.Sx
namespace Go.Sx
set_option linter.unusedVariables false
def Un (P:Program) (nt:Nat) (R:AS→Prop) (x:Code) (k:List Itm):Nat→AS→Prop
 | 0,_=>False
 | n+1,S=>AW P nt R (.code x::.stop (Un P nt R x k n)::k) S
variable {P:Program} {nt:Nat} {R:AS→Prop} {k:List Itm} {S:AS} {x:Code}
theorem dG (n:Nat) (h:Un P nt R x k n S):AW P nt R (.code (.loop x)::k) S:=by
 intro c a w hP hs
 refine wpIn_loop_rounds n ?_
 have key:∀ n (S:AS) (c':Cx) (a:Act) (w:World),Un P nt R x k n S→Le c c'→Sim c' nt S a w→Code.roundsIn (Fw c.ro) 0 P x (iH c nt (Qof P nt R k)) n a w:=by
  intro n
  induction n with
  | zero=>intro S c' a w h;exact h.elim
  | succ n ih =>
   intro S c' a w h hl hs
   rw[roundsIn_succ]
   refine wpIn_mono (AWp.le h hl hP hs) ?_
   intro e a' w' hq
   cases e<;>simp only[Exit.then]<;>simp only[iH]at hq ⊢<;>(try exact hq)
   obtain⟨c2,S',hl2,h1,h3⟩:=hq
   exact ih S' c2 a' w' h1 hl2 h3
 exact key n S c a w h (.refl c) hs
theorem Un.next {n:Nat} (h:AW P nt R (.code x::.stop (Un P nt R x k n)::k) S):Un P nt R x k (n+1) S:=h
theorem zY {n:Nat} {R':AS→Prop} {k':List Itm} (h:Un P nt R x k n S):AW P nt R' (.stop (Un P nt R x k n)::k') S:=AW.stop h
end Go.Sx
