import Derived.Test.YtjlfgmhmalbiiaaGreatDoorX11
set_option linter.all false
open Array renaming getD_eq_getD_getElem? → An, length_toList → Bk
open Int renaming mul_le_mul_of_nonneg_right → Aa, mul_nonneg → Af, emod_eq_of_lt → Am, fdiv_eq_ediv_of_nonneg → Ao, eq_ofNat_of_zero_le → Aq, toNat_natCast → Ar, emod_lt_of_pos → A5, add_mul_emod_self_left → A6, ediv_lt_iff_lt_mul → Be, emod_nonneg → Bf, mul_ediv_add_emod → Bg, pow_pos → Bj, pow_succ → Bn, mul_comm → Bo, pow_add → Bu, mul_le_mul → Bw
open List renaming getD_eq_getElem?_getD → Ab, take_succ_eq_append_getElem → Ad, mem_singleton → Ae, take_of_length_le → Ag, getElem?_eq_getElem → Ah, replicate → Ai, getElem?_eq_none → Au, length_cons → Ax, map_cons → Ay, eq_nil_of_length_eq_zero → A0, drop_eq_getElem_cons → A7, ext_getElem → A9, length_take → Ba, mem_map → Bb, map_nil → Bc, getD → Bx, range → Bz
open Nat renaming pow_le_pow_right → Ac, pow_pos → Aj, pow_succ → Ak, lt_of_le_of_lt → Al, mul_le_mul_right → Ap, div_div_eq_div_mul → As, div_lt_iff_lt_mul → At, mod_eq_of_lt → Av, div_eq_of_lt → Aw, pow_succ' → Az, add_mul_div_left → A3, mul_comm → A4, pow_lt_pow_iff_right → A8, le_refl → Bh, add_mul → Bi, mul_assoc → Bl, lt_of_lt_of_le → Bm, mul_mod_left → Bp, lt_of_not_le → Bq, pow_mul → Br, pow_add → Bt, strongRecOn → Bv, zero_add → By, mod_lt → B3
namespace Go.Sx
set_option linter.unusedVariables false
abbrev encI (k:IntKind) (z:Int):List AV:=[.lit (.int k z)]
def aH (k:IntKind) (xs:List Int):List (List AV):=xs.map (encI k)
theorem bZ (k:IntKind) (xs:List Int):(aH k xs).length=xs.length:=by simp[aH]
theorem zT (k:IntKind) (xs:List Int) (i:Nat) (h:i<xs.length):(aH k xs).getD i []=[.lit (.int k (xs.getD i 0))]:=by
 simp[aH,encI,Bx,Ah h]
theorem ints_set (k:IntKind) (xs:List Int) (i:Nat) (z:Int):(aH k xs).set i [.lit (.int k z)]=aH k (xs.set i z):=by
 simp[aH,encI,List.map_set]
theorem a7l (k:IntKind) (n:Nat) (z:Int):Ai n [AV.lit (.int k z)]=aH k (Ai n z):=by simp[aH,encI]
theorem gW (k:IntKind) (xs:List Int) (z:Int):aH k xs++[[AV.lit (.int k z)]]=aH k (xs++[z]):=by simp[aH,encI]
theorem a6b (k:IntKind) (xs:List Int) (n:Nat):(aH k xs).take n=aH k (xs.take n):=by simp[aH,List.map_take]
theorem b8j (k:IntKind) (xs:List Int) (n:Nat):(aH k xs).drop n=aH k (xs.drop n):=by simp[aH,List.map_drop]
theorem jT {K:Nat→Prop} (k:IntKind) (xs:List Int):(∀ e∈aH k xs,∀ c∈e,In K c)=True:=by
 apply eq_true
 intro e he c hc
 simp only[aH,Bb]at he
 obtain⟨z,_,rfl⟩:=he
 simp only[Ae]at hc
 subst hc
 exact .lit _
theorem a6c (k:IntKind) (xs:List Int):∀ e∈aH k xs,∀ c∈e,Flat c:=by
 intro e he c hc
 simp only[aH,Bb]at he
 obtain⟨z,_,rfl⟩:=he
 simp only[Ae]at hc
 subst hc
 exact .lit _
theorem b8i (k:IntKind) (xs:List Int):(∀ e∈aH k xs,e.length=1)=True:=by
 apply eq_true
 intro e he
 simp only[aH,Bb]at he
 obtain⟨z,_,rfl⟩:=he
 rfl
theorem c5w (k:IntKind) (n:Nat) (z:Int):AV.vec 1 (Ai n [AV.lit (.int k z)])=AV.vec 1 (aH k (Ai n z)):=by rw[a7l]
attribute [go_sem ↓] c5w
attribute [go_sem] List.take_length bZ zT ints_set gW a6b b8j jT b8i List.length_set List.length_replicate
theorem b6q (m:ByteArray) (i:Nat):IntKind.u8.wrap (bt m i)=bt m i:=by have:=jV m i;exact kG (by omega) (by omega)
theorem b5a (m:ByteArray) (i:Nat):IntKind.u32.wrap (bt m i)=bt m i:=by have:=jV m i;exact a0z (by omega) (by omega)
theorem b4z (m:ByteArray) (i:Nat):IntKind.u64.wrap (bt m i)=bt m i:=by have:=jV m i;exact xG (by omega) (by omega)
theorem a5k (m:ByteArray) (i:Nat):IntKind.i64.wrap (bt m i)=bt m i:=by have:=jV m i;exact wrap64 (by omega) (by omega)
attribute [go_sem] b6q b5a b4z a5k Ar By Nat.add_zero Bh and_self Int.ofNat_zero
theorem b7y:maxLen=9223372036854775807:=rfl
theorem b7a (n:Int):n.fdiv (2 ^ min 32 64)=n / 4294967296:=by
 have e:(2:Int) ^ min 32 64=4294967296:=by decide
 rw[e,Ao _ (by decide)]
theorem b7c (n:Int):n*2 ^ min 32 64=n*4294967296:=by
 have e:(2:Int) ^ min 32 64=4294967296:=by decide
 rw[e]
theorem b7w:min 31 32=31:=rfl
theorem d0k:IntKind.u32.signed=false:=rfl
theorem d0j:IntKind.u64.signed=false:=rfl
attribute [go_sem] b7y b7a b7c b7w d0k d0j
theorem uK {ob:Nat→AV} {l L k:Nat} {es:List (List AV)} (h:ob l=.vec k es) (hL:es.length=L):bw ob (.ref l 0 L L)=.sl es:=by
 subst hL
 simp only[bw,h]
 by_cases h0:es=[]
 ·subst h0;simp
 ·have:0<es.length:=by cases es<;>simp_all
  simp[this]
theorem iL {P : Program} {f l L k : Nat} {es : List (List AV)} {i : Nat} {ob : Nat → AV} {E : Eff → Prop} (r : AV) (hf : fnT P f = true) (hc : CallOK P f [.sl es] [] r []) (hob : ob l = .vec k es) (hL : es.length = L) (hin : ∀ e ∈ es, ∀ c ∈ e, In (fun _ => False) c) (hr : Flat r)
  (h:E ⟨r,[],[l]⟩):callV P f [.ref l 0 L L] i ob E:=by
 refine dY r hf ?_ ?_ hr h
 ·simp only[Ay,Bc,bwa,uK hob hL];exact hc
 ·simp only[Ay,Bc,bwa,uK hob hL,Ae,forall_eq];exact .sl es hin
theorem oL {k:IntKind} {xs:List Int} {L:Nat} (h:xs.length=L):(if 0<L then AV.sl (aH k (xs.take L))else if L=0 then AV.sl []else AV.any)=AV.sl (aH k xs):=by
 split
 ·rw[Ag (by omega)]
 ·have:L=0:=by omega
  subst this
  have:xs=[]:=A0 h
  subst this
  rfl
abbrev B32:Nat:=4294967296
def dgp (L x:Nat):List Int:=(Bz L).map fun j=>((x / B32 ^ j % B32:Nat):Int)
theorem gL (L x:Nat):(dgp L x).length=L:=by simp[dgp]
theorem c4c {L x j:Nat} (h:j<L):(dgp L x).getD j 0=((x / B32 ^ j % B32:Nat):Int):=by
 simp[dgp,Bx,h]
theorem nY {L x j:Nat} (h:j<(dgp L x).length):(dgp L x)[j]=((x / B32 ^ j % B32:Nat):Int):=by simp[dgp]
theorem c3z (L:Nat):dgp L 0=Ai L 0:=by
 apply A9
 ·simp[gL]
 ·intro i h1 h2;rw[nY];simp
attribute [go_sem] gL
theorem uQ (j:Nat):B32 ^ j=256 ^ (4*j):=by
 rw[Br]
theorem a3g (l:List UInt8) (k:Nat) (h:k<l.length):nvL (l.take (k+1))=nvL (l.take k)+l[k].toNat*256 ^ k:=by
 rw[Ad h,vX]
 have hl:(l.take k).length=k:=by simp;omega
 rw[hl]
 simp only[nvL]
 grind
theorem c4b {L x b i : Nat} (hx : x < 256 ^ i) (hb : b < 256) (hi : i / 4 < L) :
  dgp L (x+b*256 ^ i)=(dgp L x).set (i / 4) ((x / B32 ^ (i / 4) % B32:Nat)+((b*256 ^ (i % 4):Nat):Int)):=by
 apply A9
 ·simp[gL]
 ·intro j h1 h2
  rw[nY,List.getElem_set]
  have hi4:i=4*(i / 4)+i % 4:=by omega
  generalize i / 4=q at *
  generalize hr:i % 4=r at *
  have hr4:r<4:=by omega
  subst hi4
  have hB:256 ^ (4*q+r)=B32 ^ q*256 ^ r:=by rw[uQ,Bt]
  have hBq:0<B32 ^ q:=Aj (by decide)
  split
  ·rename_i e
   subst e
   have e1:(x+b*256 ^ (4*q+r)) / B32 ^ q=x / B32 ^ q+b*256 ^ r:=by
    rw[hB,← Bl,A4 b,Bl,A3 _ _ hBq]
   have hxq:x / B32 ^ q<256 ^ r:=by rw[At hBq,A4,← hB];exact hx
   have h3:256 ^ (r+1)≤256 ^ 4:=Ac (by decide) (by omega)
   have h4:256 ^ r≤256 ^ 4:=Ac (by decide) (by omega)
   have h5:b*256 ^ r+256 ^ r≤256 ^ (r+1):=by
    rw[Ak,A4 (256 ^ r) 256]
    have:(b+1)*256 ^ r≤256*256 ^ r:=Ap _ (by omega)
    rw[Bi]at this;omega
   have hB0:B32=4294967296:=rfl
   rw[e1,Av (a:=x / B32 ^ q+b*256 ^ r) (by omega),Av (a:=x / B32 ^ q) (by omega)]
   simp
  ·rename_i hne
   rw[nY]
   congr 1
   by_cases hj:j<q
   ·have e1:256 ^ (4*q+r)=B32 ^ j*(B32*(B32 ^ (q - j - 1)*256 ^ r)):=by
     rw[hB]
     have:B32 ^ q=B32 ^ j*(B32*B32 ^ (q - j - 1)):=by
      rw[← Az,← Bt];congr 1;omega
     rw[this];simp only[Bl]
    rw[e1]
    have e2:b*(B32 ^ j*(B32*(B32 ^ (q - j - 1)*256 ^ r)))=B32 ^ j*(B32*(b*(B32 ^ (q - j - 1)*256 ^ r))):=by grind
    rw[e2,A3 _ _ (Aj (by decide)),Nat.add_mul_mod_self_left]
   ·have hlt:x+b*256 ^ (4*q+r)<B32 ^ j:=by
     have h3:256 ^ (4*q+r+1)≤256 ^ (4*j):=Ac (by decide) (by omega)
     rw[← uQ,Ak]at h3
     have:(b+1)*256 ^ (4*q+r)≤256*256 ^ (4*q+r):=Ap _ (by omega)
     rw[Bi]at this
     rw[A4]at h3
     omega
    rw[Aw hlt,Aw (by omega)]
theorem uR {k : IntKind} {a b : Int} {j : Nat} (ha : 0 ≤ a) (haj : a < 2 ^ j) (hb : 0 ≤ b) (hbj : b % 2 ^ j = 0) (hab : a + b < 2 ^ k.bits) (hk : k.signed = false) :
  k.wrap ((BitVec.ofInt k.bits a ||| BitVec.ofInt k.bits b).toNat:Int)=a+b:=by
 have h1:a<2 ^ k.bits:=by omega
 have h2:b<2 ^ k.bits:=by omega
 obtain⟨a,rfl⟩:=Aq ha
 obtain⟨b,rfl⟩:=Aq hb
 have c1:a<2 ^ k.bits:=by exact_mod_cast h1
 have c2:b<2 ^ k.bits:=by exact_mod_cast h2
 have c3:a<2 ^ j:=by exact_mod_cast haj
 have c4:b % 2 ^ j=0:=by exact_mod_cast hbj
 have c5:a+b<2 ^ k.bits:=by exact_mod_cast hab
 have e1:(BitVec.ofInt k.bits (a:Int) ||| BitVec.ofInt k.bits (b:Int)).toNat=a ||| b:=by
  rw[BitVec.toNat_or,BitVec.toNat_ofInt,BitVec.toNat_ofInt]
  congr 1
  ·have:((a:Int) % ((2 ^ k.bits:Nat):Int))=((a % 2 ^ k.bits:Nat):Int):=by norm_cast
   rw[this,Ar,Av c1]
  ·have:((b:Int) % ((2 ^ k.bits:Nat):Int))=((b % 2 ^ k.bits:Nat):Int):=by norm_cast
   rw[this,Ar,Av c2]
 have e2:a ||| b=a+b:=by
  have hb2:b=2 ^ j*(b / 2 ^ j):=by have:=Nat.div_add_mod b (2 ^ j);omega
  rw[hb2,Nat.or_comm,← Nat.two_pow_add_eq_or_of_lt c3,Nat.add_comm]
 rw[e1,e2]
 unfold IntKind.wrap
 simp only[hk,Bool.false_and,Bool.false_eq_true,↓reduceIte]
 have:((a+b:Nat):Int) % 2 ^ k.bits=((a+b:Nat):Int):=by
  apply Am
  ·omega
  ·exact_mod_cast c5
 rw[this]
 simp
attribute [go_sem] jT
end Go.Sx
namespace Go.Sx
set_option linter.unusedVariables false
theorem yD (m:ByteArray) (i:Nat) (h:i<m.data.toList.length):bt m i=(m.data.toList[i].toNat:Int):=by
 unfold bt
 have h2:i<m.data.size:=by rw[Bk]at h;exact h
 simp only[An,Array.getElem?_eq_getElem h2,Option.getD_some,Array.getElem_toList]
theorem b8a (m : ByteArray) (L i : Nat) (hi : i < m.size) (hL : i / 4 < L) :
  (dgp L (nvL (m.data.toList.take i))).set (i / 4) (IntKind.u32.wrap ((BitVec.ofInt IntKind.u32.bits ((dgp L (nvL (m.data.toList.take i))).getD (i / 4) 0) |||
   BitVec.ofInt IntKind.u32.bits (IntKind.u32.wrap (bt m i*2 ^ min (8*((i:Int) % 4)).toNat 32))).toNat:Int))=dgp L (nvL (m.data.toList.take (i+1))):=by
 have hl:i<m.data.toList.length:=by rw[← qX];exact hi
 rw[yD m i hl,a3g _ _ hl]
 have hx:nvL (m.data.toList.take i)<256 ^ i:=by
  have:=x5 (m.data.toList.take i)
  have e:(m.data.toList.take i).length=i:=by simp only[Ba];omega
  rwa [e]at this
 generalize nvL (m.data.toList.take i)=x at *
 have hb:=(m.data.toList[i]).toNat_lt
 generalize (m.data.toList[i]).toNat=b at *
 rw[c4b hx hb hL,c4c hL]
 congr 1
 have hmin:min (8*((i:Int) % 4)).toNat 32=8*(i % 4):=by omega
 rw[hmin]
 have hp:(2:Int) ^ (8*(i % 4))=((256 ^ (i % 4):Nat):Int):=by
  rw[show (256:Nat)=2 ^ 8 from rfl,← Br];norm_cast
 rw[hp]
 have hr:i % 4<4:=B3 _ (by decide)
 have hd:x / B32 ^ (i / 4) % B32<256 ^ (i % 4):=by
  have hi4:i=4*(i / 4)+i % 4:=by omega
  have hB:256 ^ i=B32 ^ (i / 4)*256 ^ (i % 4):=by rw[uQ,← Bt];congr 1
  have h1:x / B32 ^ (i / 4)<256 ^ (i % 4):=by
   rw[At (Aj (by decide)),A4,← hB];exact hx
  exact Al (Nat.mod_le _ _) h1
 generalize x / B32 ^ (i / 4) % B32=d at *
 have hcast:((b:Int)*((256 ^ (i % 4):Nat):Int))=((b*256 ^ (i % 4):Nat):Int):=by norm_cast
 rw[hcast]
 have h5:b*256 ^ (i % 4)+256 ^ (i % 4)≤256 ^ 4:=by
  have h1:(b+1)*256 ^ (i % 4)≤256*256 ^ (i % 4):=Ap _ (by omega)
  have h2:256*256 ^ (i % 4)≤256 ^ 4:=by
   rw[← Az];exact Ac (by decide) (by omega)
  rw[Bi]at h1;omega
 have h6:(256:Nat) ^ 4=4294967296:=by decide
 have hpos:0<256 ^ (i % 4):=Aj (by decide)
 rw[a0z (n:=((b*256 ^ (i % 4):Nat):Int)) (by omega) (by omega)]
 have hp2:(2:Int) ^ (8*(i % 4))=((256 ^ (i % 4):Nat):Int):=hp
 refine (uR (a:=(d:Int)) (b:=((b*256 ^ (i % 4):Nat):Int)) (j:=8*(i % 4)) (by omega) (by rw[hp2];omega) (by omega) ?_ ?_ rfl).trans ?_
 ·rw[hp2]
  have:((b*256 ^ (i % 4):Nat):Int) % ((256 ^ (i % 4):Nat):Int)=((b*256 ^ (i % 4) % 256 ^ (i % 4):Nat):Int):=by norm_cast
  rw[this,Bp];rfl
 ·show _<(2:Int) ^ 32
  have:(2:Int) ^ 32=4294967296:=by decide
  rw[this]
  generalize b*256 ^ (i % 4)=q at *
  omega
 ·rfl
theorem a3s (c:ByteArray) {i:Nat} (h:c.size≤i):nvL (c.data.toList.take i)=nv c:=by
 rw[Ag (by rw[← qX];exact h)];rfl
def wv:List Int→Nat
 | []=>0
 | d::l=>d.toNat+B32*wv l
def le4 (d:Int):List Int:=[d % 256,d / 256 % 256,d / 65536 % 256,d / 16777216 % 256]
def by4 (xs:List Int):List Int:=xs.flatMap le4
theorem c4m (xs:List Int) (i:Nat) (h:i<xs.length):by4 (xs.take (i+1))=by4 (xs.take i)++le4 (xs.getD i 0):=by
 unfold by4
 rw[Ad h,List.flatMap_append]
 simp[Bx,Ah h]
theorem c2x (d:Int) (k:Nat) (hd:0≤d) (hd2:d<4294967296) (hk:k<4):(le4 d).take (k+1)=(le4 d).take k++[IntKind.u8.wrap (d.fdiv (2 ^ min (8*k) 32))]:=by
 have hw:∀ z:Int,IntKind.u8.wrap z=z % 256:=fun z=>by simp[IntKind.wrap,IntKind.bits,IntKind.signed]
 rw[hw]
 rw[Ao _ (by have:(0:Int)<2 ^ min (8*k) 32:=Bj (by decide);omega)]
 match k,hk with
 | 0,_=>simp[le4]
 | 1,_=>simp[le4]
 | 2,_=>simp[le4]
 | 3,_=>simp[le4]
def ofI (l:List Int):List UInt8:=l.map fun z=>UInt8.ofNat z.toNat
theorem iN (l:List Int) (h:∀ z∈l,0≤z∧z<256):aH .u8 l=(ofI l).map sH:=by
 induction l with
 | nil=>rfl
 | cons z l ih =>
  have h1:=h z (by simp)
  have h2:=ih fun z hz=>h z (by simp[hz])
  simp only[aH,ofI,Ay]at *
  rw[h2]
  simp only[encI,sH]
  congr 3
  simp
  omega
theorem c4n (xs:List Int):∀ z∈by4 xs,0≤z∧z<256:=by
 intro z hz
 simp only[by4,List.mem_flatMap]at hz
 obtain⟨d,_,hz⟩:=hz
 simp only[le4,List.mem_cons,List.not_mem_nil,or_false]at hz
 rcases hz with rfl|rfl|rfl|rfl<;>omega
theorem d1a (xs:List Int) (h:∀ x∈xs,0≤x∧x<4294967296):nvL (ofI (by4 xs))=wv xs:=by
 induction xs with
 | nil=>rfl
 | cons x xs ih =>
  have h1:=h x (by simp)
  have h2:=ih fun z hz=>h z (by simp[hz])
  have e:ofI (by4 (x::xs))=ofI (le4 x)++ofI (by4 xs):=by simp[by4,ofI]
  rw[e,vX,h2]
  simp only[ofI,le4,Ay,Bc,nvL,wv,Ax,List.length_nil]
  obtain⟨n,rfl⟩:=Aq h1.1
  have hn:n<4294967296:=by omega
  have e0:((n:Int) % 256).toNat=n % 256:=by omega
  have e1:((n:Int) / 256 % 256).toNat=n / 256 % 256:=by omega
  have e2:((n:Int) / 65536 % 256).toNat=n / 65536 % 256:=by omega
  have e3:((n:Int) / 16777216 % 256).toNat=n / 16777216 % 256:=by omega
  simp only[e0,e1,e2,e3,UInt8.toNat_ofNat',Nat.reducePow,Nat.mod_mod,Ar]
  have hB0:B32=4294967296:=rfl
  rw[hB0]
  omega
end Go.Sx
namespace Go.Sx
set_option linter.unusedVariables false
def wz:List Int→Int
 | []=>0
 | d::l=>d+4294967296*wz l
def Dig (xs:List Int):Prop:=∀ x∈xs,0≤x∧x<4294967296
theorem rS {xs:List Int} (h:Dig xs):(wv xs:Int)=wz xs:=by
 induction xs with
 | nil=>rfl
 | cons x xs ih =>
  have h1:=h x (by simp)
  have h2:=ih fun z hz=>h z (by simp[hz])
  simp only[wv,wz,Int.natCast_add,Int.natCast_mul,h2]
  have hB0:(B32:Int)=4294967296:=rfl
  rw[hB0]
  omega
theorem pQ (a b:List Int):wz (a++b)=wz a+4294967296 ^ a.length*wz b:=by
 induction a with
 | nil=>simp[wz]
 | cons x a ih =>
  simp only[List.cons_append,wz,ih,Ax,Bn]
  grind
theorem Dig.getD {xs:List Int} (h:Dig xs) (i:Nat):0≤xs.getD i 0∧xs.getD i 0<4294967296:=by
 rw[Ab]
 by_cases hi:i<xs.length
 ·rw[Ah hi];exact h _ (List.getElem_mem _)
 ·rw[Au (by omega)];simp
theorem cW (xs:List Int) (i:Nat):wz (xs.take (i+1))=wz (xs.take i)+4294967296 ^ i*xs.getD i 0:=by
 by_cases h:i<xs.length
 ·rw[Ad h,pQ]
  have hl:(xs.take i).length=i:=by simp;omega
  rw[hl,Ab,Ah h]
  simp[wz]
 ·rw[Ag (by omega),Ag (by omega),Ab,Au (by omega)]
  simp
theorem b3r {xs:List Int} {i:Nat} (h:i<xs.length) (d:Int):(xs.set i d).take (i+1)=xs.take i++[d]:=by
 rw[Ad (by simpa using h)]
 simp[List.take_set_of_le]
theorem j2 {xs:List Int} {i:Nat} (h:i<xs.length) (d:Int):wz ((xs.set i d).take (i+1))=wz (xs.take i)+4294967296 ^ i*d:=by
 rw[b3r h,pQ]
 have hl:(xs.take i).length=i:=by simp;omega
 rw[hl];simp[wz]
theorem Dig.set {xs:List Int} (h:Dig xs) {i:Nat} {d:Int} (hd:0≤d∧d<4294967296):Dig (xs.set i d):=by
 intro x hx
 rcases List.mem_or_eq_of_mem_set hx with hx|rfl
 ·exact h x hx
 ·exact hd
theorem Dig.rep (n:Nat):Dig (Ai n 0):=by
 intro x hx;rw[List.eq_of_mem_replicate hx];decide
theorem eC {xs:List Int} (h:Dig xs):0≤wz xs:=by rw[← rS h];omega
theorem jX {xs:List Int} (h:Dig xs):wz xs<4294967296 ^ xs.length:=by
 induction xs with
 | nil=>simp[wz]
 | cons x xs ih =>
  have h1:=h x (by simp)
  have h2:=ih fun z hz=>h z (by simp[hz])
  simp only[wz,Ax,Bn]
  omega
theorem Dig.take {xs:List Int} (h:Dig xs) (i:Nat):Dig (xs.take i):=fun x hx=>h x (List.mem_of_mem_take hx)
theorem Dig.drop {xs:List Int} (h:Dig xs) (i:Nat):Dig (xs.drop i):=fun x hx=>h x (List.mem_of_mem_drop hx)
theorem Dig.append {xs ys:List Int} (h:Dig xs) (h':Dig ys):Dig (xs++ys):=fun x hx=>by
 rcases List.mem_append.1 hx with hx|hx
 ·exact h x hx
 ·exact h' x hx
theorem l5 (L x:Nat):Dig (dgp L x):=by
 intro d hd
 simp only[dgp,Bb]at hd
 obtain⟨j,_,rfl⟩:=hd
 have hB0:B32=4294967296:=rfl
 have:=B3 (x / B32 ^ j) (show 0<B32 by decide)
 omega
theorem a8c (L x:Nat):dgp (L+1) x=((x % B32:Nat):Int)::dgp L (x / B32):=by
 apply A9
 ·simp[gL]
 ·intro i h1 h2
  rw[nY]
  cases i with
  | zero=>simp
  | succ i =>
   simp only[List.getElem_cons_succ,nY]
   rw[Az,As]
theorem b0u {L x:Nat} (h:x<B32 ^ L):wz (dgp L x)=x:=by
 induction L generalizing x with
 | zero =>
  have:x=0:=by simpa using h
  subst this
  rfl
 | succ L ih =>
  rw[a8c]
  simp only[wz]
  rw[ih (by rw[At (by decide)];rwa [Ak]at h)]
  have hB0:B32=4294967296:=rfl
  rw[hB0]
  omega
def lmN (n:Nat):List Int:=dgp (((nb n).size+3) / 4) n
theorem vZ (n:Nat):(lmN n).length=((nb n).size+3) / 4:=gL _ _
theorem l4 (n:Nat):Dig (lmN n):=l5 _ _
theorem d1g (n:Nat):n<B32 ^ (((nb n).size+3) / 4):=by
 rw[uQ]
 exact Bm ((cG n _).1 (Bh _)) (Ac (by decide) (by omega))
theorem l6 (n:Nat):wz (lmN n)=n:=b0u (d1g n)
theorem a4x {n k:Nat} (h:n<B32 ^ k):(lmN n).length≤k:=by
 rw[vZ]
 rw[uQ]at h
 have:=(cG n _).2 h
 omega
theorem c2p:lmN 0=[]:=by
 apply A0
 have:=a4x (n:=0) (k:=0) (by decide)
 omega
theorem iP (z:Int):IntKind.u32.wrap z=z % 4294967296:=by simp[IntKind.wrap,IntKind.bits,IntKind.signed]
theorem c8t (v:BitVec 32):BitVec.ofInt 32 (IntKind.u32.wrap (v.toNat:Int))=v:=by
 rw[iP]
 have:v.toNat<4294967296:=v.isLt
 rw[Am (by omega) (by omega)]
 simp
theorem d2m (v:BitVec 32):(IntKind.u32.wrap (v.toNat:Int)).fdiv (2 ^ 31)=if v.msb then 1 else 0:=by
 rw[iP]
 have h1:v.toNat<4294967296:=v.isLt
 rw[Am (by omega) (by omega),Ao _ (by decide),BitVec.msb_eq_decide]
 have e:(2:Int) ^ 31=2147483648:=by decide
 have e2:(2:Nat) ^ (32 - 1)=2147483648:=by decide
 rw[e,e2]
 by_cases h:2147483648≤v.toNat<;>simp[h]<;>omega
theorem c4o {x y b : Int} (hx : 0 ≤ x ∧ x < 4294967296) (hy : 0 ≤ y ∧ y < 4294967296) (hb : 0 ≤ b ∧ b ≤ 1) :
  (IntKind.u32.wrap ((BitVec.ofInt 32 (IntKind.u32.wrap ((BitVec.ofInt 32 (IntKind.u32.wrap ((BitVec.ofInt 32 IntKind.u32.max ^^^ BitVec.ofInt 32 x).toNat:Int)) &&& BitVec.ofInt 32 y).toNat:Int)) |||
   BitVec.ofInt 32 (IntKind.u32.wrap ((BitVec.ofInt 32 (IntKind.u32.wrap ((BitVec.ofInt 32 IntKind.u32.max ^^^ BitVec.ofInt 32 (IntKind.u32.wrap ((BitVec.ofInt 32 x ^^^ BitVec.ofInt 32 y).toNat:Int))).toNat:Int)) &&&
    BitVec.ofInt 32 (IntKind.u32.wrap (IntKind.u32.wrap (x - y) - b))).toNat:Int))).toNat:Int)).fdiv (2 ^ 31)=if x<y+b then 1 else 0:=by
 rw[d2m]
 simp only[c8t]
 have hmax:BitVec.ofInt 32 IntKind.u32.max=BitVec.allOnes 32:=by decide
 rw[hmax]
 have m1:∀ z:Int,0≤z→z<4294967296→(BitVec.ofInt 32 z).msb=decide (2147483648≤z):=by
  intro z h1 h2
  rw[BitVec.msb_eq_decide,BitVec.toNat_ofInt]
  have e:((z % ((2 ^ 32:Nat):Int)).toNat)=z.toNat:=by
   have:((2 ^ 32:Nat):Int)=4294967296:=by decide
   rw[this,Am h1 h2]
  rw[e]
  have e2:(2:Nat) ^ (32 - 1)=2147483648:=by decide
  rw[e2]
  congr 1
  apply propext
  omega
 have hd:IntKind.u32.wrap (IntKind.u32.wrap (x - y) - b)=(x - y - b) % 4294967296:=by rw[iP,iP];omega
 rw[hd]
 simp only[BitVec.msb_or,BitVec.msb_and,BitVec.msb_xor,BitVec.msb_allOnes (w:=32) (by decide)]
 rw[m1 x hx.1 hx.2,m1 y hy.1 hy.2,m1 _ (by omega) (by omega)]
 by_cases c1:2147483648≤x<;>by_cases c2:2147483648≤y<;>by_cases c3:2147483648≤(x - y - b) % 4294967296<;>simp[c1,c2,c3]<;>omega
theorem kJ (m:ByteArray) (i:Nat):bt m i=((nv m / 256 ^ i % 256:Nat):Int):=by
 by_cases h:i<m.data.toList.length
 ·rw[yD m i h]
  congr 1
  have e:=vX (m.data.toList.take i) (m.data.toList.drop i)
  rw[List.take_append_drop]at e
  have hl:(m.data.toList.take i).length=i:=by simp only[Ba];omega
  have hlt:=x5 (m.data.toList.take i)
  rw[hl]at e hlt
  have:nv m=nvL m.data.toList:=rfl
  rw[this,e,A3 _ _ (Aj (by decide)),Aw hlt,By,A7 h]
  simp only[nvL]
  have:=(m.data.toList[i]).toNat_lt
  omega
 ·have h2:nv m<256 ^ i:=Bm (fH m) (Ac (by decide) (by rw[qX];omega))
  rw[Aw h2]
  unfold bt
  have:m.data.size≤i:=by rw[Bk]at h;omega
  simp[An,Array.getElem?_eq_none this]
def bR (a b:Nat):Int:=if a<b then -1 else if a=b then 0 else 1
theorem vY {p q:Nat} (h:(nb p).size<(nb q).size):p<q:=by
 apply Bq
 intro hqp
 have h1:=(cG p _).1 (Bh _)
 have:=(cG q (nb p).size).2 (Al hqp h1)
 omega
theorem b9e (m : ByteArray) (i : Nat) (hi : i < m.size) (h8 : i < 8) :
  IntKind.u64.wrap ((BitVec.ofInt IntKind.u64.bits (nvL (m.data.toList.take i):Int) ||| BitVec.ofInt IntKind.u64.bits (IntKind.u64.wrap (bt m i*2 ^ min (8*(i:Int)).toNat 64))).toNat:Int)=(nvL (m.data.toList.take (i+1)):Int):=by
 have hl:i<m.data.toList.length:=by rw[← qX];exact hi
 rw[yD m i hl,a3g _ _ hl]
 have hx:nvL (m.data.toList.take i)<256 ^ i:=by
  have:=x5 (m.data.toList.take i)
  have e:(m.data.toList.take i).length=i:=by simp only[Ba];omega
  rwa [e]at this
 generalize nvL (m.data.toList.take i)=x at *
 have hb:=(m.data.toList[i]).toNat_lt
 generalize (m.data.toList[i]).toNat=b at *
 have hmin:min (8*(i:Int)).toNat 64=8*i:=by omega
 rw[hmin]
 have hp:(2:Int) ^ (8*i)=((256 ^ i:Nat):Int):=by
  rw[show (256:Nat)=2 ^ 8 from rfl,← Br];norm_cast
 rw[hp]
 have hcast:((b:Int)*((256 ^ i:Nat):Int))=((b*256 ^ i:Nat):Int):=by norm_cast
 rw[hcast]
 have h5:b*256 ^ i+256 ^ i≤256 ^ 8:=by
  have h1:(b+1)*256 ^ i≤256*256 ^ i:=Ap _ (by omega)
  have h2:256*256 ^ i≤256 ^ 8:=by
   rw[← Az];exact Ac (by decide) (by omega)
  rw[Bi]at h1;omega
 have h6:(256:Nat) ^ 8=18446744073709551616:=by decide
 have hpos:0<256 ^ i:=Aj (by decide)
 rw[xG (n:=((b*256 ^ i:Nat):Int)) (by omega) (by omega)]
 refine (uR (a:=(x:Int)) (b:=((b*256 ^ i:Nat):Int)) (j:=8*i) (by omega) (by rw[hp];omega) (by omega) ?_ ?_ rfl).trans ?_
 ·rw[hp]
  have:((b*256 ^ i:Nat):Int) % ((256 ^ i:Nat):Int)=((b*256 ^ i % 256 ^ i:Nat):Int):=by norm_cast
  rw[this,Bp];rfl
 ·show _<(2:Int) ^ 64
  have:(2:Int) ^ 64=18446744073709551616:=by decide
  rw[this]
  generalize b*256 ^ i=q at *
  omega
 ·norm_cast
theorem qV {p q k:Nat} (h:p / 256 ^ (k+1)=q / 256 ^ (k+1)):(p / 256 ^ k % 256<q / 256 ^ k % 256→p<q)∧(p / 256 ^ k % 256=q / 256 ^ k % 256→p / 256 ^ k=q / 256 ^ k):=by
 have e:∀ n:Nat,n / 256 ^ (k+1)=n / 256 ^ k / 256:=fun n=>by rw[Ak,As]
 rw[e,e]at h
 refine⟨fun hlt=>?_,fun heq=>by omega⟩
 apply Bq
 intro hqp
 have:=Nat.div_le_div_right (c:=256 ^ k) hqp
 omega
theorem c8n {a b:Nat}:bR a b<0↔a<b:=by unfold bR;split<;>(try split)<;>omega
theorem a7k {p q:Nat} (h:p≤q):(lmN p).length≤(lmN q).length:=by
 rw[vZ,vZ]
 have:=(cG p (nb q).size).2 (Al h ((cG q _).1 (Bh _)))
 omega
theorem dL {xs:List Int} {n:Nat} (h:xs.length≤n):xs.take n=xs:=Ag h
theorem b0s {xs:List Int} {i:Nat} (h:i<xs.length) (d:Int):wz (xs.set i d)=wz xs+4294967296 ^ i*(d - xs.getD i 0):=by
 induction xs generalizing i with
 | nil=>simp at h
 | cons x xs ih =>
  cases i with
  | zero=>simp[wz];omega
  | succ i =>
   have hi:i<xs.length:=by simpa using h
   have e:(x::xs).getD (i+1) 0=xs.getD i 0:=by simp
   simp only[List.set_cons_succ,wz,ih hi,e,Bn]
   grind
theorem vP {xs:List Int} {i j:Nat} (h:i≠j) (d:Int):(xs.set i d).getD j 0=xs.getD j 0:=by
 simp[Ab,List.getElem?_set_ne h]
theorem a7r (n j:Nat):(List.replicate n (0:Int)).getD j 0=0:=by
 rw[Ab]
 by_cases h:j<n
 ·simp[h]
 ·rw[Au (by simp;omega)];rfl
theorem b0t (n:Nat):wz (Ai n 0)=0:=by
 induction n with
 | zero=>rfl
 | succ n ih=>simp[List.replicate_succ,wz,ih]
end Go.Sx
namespace Go.Sx
set_option linter.unusedVariables false
def bM (n:Nat):Nat:=if h:n=0 then 0 else bM (n / 2)+1
termination_by n
decreasing_by omega
theorem wP:bM 0=0:=by rw[bM];simp
theorem qE {n:Nat} (h:n≠0):bM n=bM (n / 2)+1:=by rw[bM];simp[h]
theorem b0g (n:Nat):n<2 ^ bM n:=by
 induction n using Bv with
 | _ n ih =>
  by_cases h:n=0
  ·subst h;simp[wP]
  ·rw[qE h,Ak]
   have:=ih (n / 2) (by omega)
   omega
theorem b0h {n:Nat} (h:n≠0):2 ^ (bM n - 1)≤n:=by
 induction n using Bv with
 | _ n ih =>
  rw[qE h,Nat.add_sub_cancel]
  by_cases h2:n / 2=0
  ·rw[h2,wP];simp;omega
  ·have:=ih (n / 2) (by omega) h2
   have e:bM (n / 2)=bM (n / 2) - 1+1:=by have:=qE h2;omega
   rw[e,Ak]
   omega
theorem zK (n k:Nat) (h:2 ^ k≤n):bM n=k+bM (n / 2 ^ k):=by
 induction k generalizing n with
 | zero=>simp
 | succ k ih =>
  have hp:0<2 ^ k:=Aj (by decide)
  have hn:n≠0:=by rw[Ak]at h;omega
  rw[qE hn,ih (n / 2) (by rw[Ak]at h;omega),Az,As]
  omega
theorem oM {n k:Nat} (h:n<2 ^ k):bM n≤k:=by
 by_cases hn:n=0
 ·subst hn;rw[wP];omega
 ·have h1:=b0h hn
  have h2:2 ^ (bM n - 1)<2 ^ k:=Al h1 h
  have:=(A8 (show 1<2 by decide)).1 h2
  omega
theorem b9i {n k:Nat} (h:n<2 ^ k) (h2:(n=0∧k=0)∨(0<k∧2 ^ (k - 1)≤n)):bM n=k:=by
 rcases h2 with⟨rfl,rfl⟩|⟨h0,h2⟩
 ·exact wP
 ·have h3:=oM h
  have hn:n≠0:=by have:0<2 ^ (k - 1):=Aj (by decide);omega
  have h4:2 ^ (k - 1)<2 ^ bM n:=Al h2 (b0g n)
  have:=(A8 (show 1<2 by decide)).1 h4
  omega
def b2c (l:List UInt8):Bool:=(Bz 256).all fun n=>decide (n<2 ^ (l.getD n 0).toNat)&&(decide (n=0∧(l.getD n 0).toNat=0)||decide (0<(l.getD n 0).toNat∧2 ^ ((l.getD n 0).toNat - 1)≤n))
theorem c1e {l:List UInt8} (h:b2c l=true) {n:Nat} (hn:n<256):bt ⟨l.toArray⟩ n=(bM n:Int):=by
 have:=List.all_eq_true.1 h n (List.mem_range.2 hn)
 simp only[Bool.and_eq_true,Bool.or_eq_true,decide_eq_true_eq]at this
 rw[b9i this.1 this.2]
 unfold bt
 simp[An,Ab]
theorem c3y {xs:List Int} (h:Dig xs):xs=dgp xs.length (wz xs).toNat:=by
 induction xs with
 | nil=>rfl
 | cons x xs ih =>
  have h1:=h x (by simp)
  have h2:Dig xs:=fun z hz=>h z (by simp[hz])
  have h3:=eC h2
  rw[Ax,a8c]
  have hB0:B32=4294967296:=rfl
  have e1:(wz (x::xs)).toNat % B32=x.toNat:=by rw[hB0];simp only[wz];omega
  have e2:(wz (x::xs)).toNat / B32=(wz xs).toNat:=by rw[hB0];simp only[wz];omega
  rw[e1,e2,← ih h2]
  congr 1
  omega
theorem rI {xs:List Int} {n:Nat} {v:Int} (h:Dig xs) (hn:xs.length=n) (hv:wz xs=v):xs=dgp n v.toNat:=by
 rw[← hn,← hv];exact c3y h
theorem tW {k:Nat} (h:k≤31):(1:Int)≤2 ^ k∧(2:Int) ^ k≤2147483648:=by
 have h1:(2:Nat) ^ k≤2 ^ 31:=Ac (by decide) h
 have h2:0<(2:Nat) ^ k:=Aj (by decide)
 have e:((2 ^ k:Nat):Int)=(2:Int) ^ k:=by norm_cast
 have e2:(2:Nat) ^ 31=2147483648:=by decide
 omega
theorem b5j {x d : Int} {k : Nat} (hk : k ≤ 31) (hx : 0 ≤ x ∧ x < 4294967296) (hd : 0 ≤ d ∧ d < 2 ^ k) :
  IntKind.u32.wrap ((BitVec.ofInt IntKind.u32.bits d ||| BitVec.ofInt IntKind.u32.bits (IntKind.u32.wrap (x*2 ^ k))).toNat:Int)=d+(x*2 ^ k) % 4294967296 ∧
  0≤d+(x*2 ^ k) % 4294967296∧d+(x*2 ^ k) % 4294967296<4294967296∧0≤x*2 ^ k∧x*2 ^ k<9223372036854775808∧0≤x*2 ^ k / 4294967296∧x*2 ^ k / 4294967296<2 ^ k:=by
 obtain⟨p1,p2⟩:=tW hk
 have e32:(2:Int) ^ IntKind.u32.bits=4294967296:=by decide
 have hsplit:(4294967296:Int)=2 ^ k*2 ^ (32 - k):=by
  rw[← Bu,show k+(32 - k)=32 by omega];decide
 have hmod:(x*2 ^ k) % 4294967296=2 ^ k*(x % 2 ^ (32 - k)):=by
  rw[hsplit,Bo x,Int.mul_emod_mul_of_pos _ _ (by omega)]
 have hr:0≤x % 2 ^ (32 - k)∧x % 2 ^ (32 - k)<2 ^ (32 - k):=⟨Bf _ (by have:(0:Int)<2 ^ (32 - k):=Bj (by decide);omega),A5 _ (Bj (by decide))⟩
 have hle:2 ^ k*(x % 2 ^ (32 - k))+2 ^ k≤4294967296:=by
  have:(2:Int) ^ k*(x % 2 ^ (32 - k)+1)≤2 ^ k*2 ^ (32 - k):=Int.mul_le_mul_of_nonneg_left (by omega) (by omega)
  rw[← hsplit,Int.mul_add,Int.mul_one]at this
  exact this
 have hnn:0≤2 ^ k*(x % 2 ^ (32 - k)):=Af (by omega) hr.1
 have hx1:0≤x*2 ^ k:=Af hx.1 (by omega)
 have hx2:x*2 ^ k≤4294967295*2147483648:=Bw (by omega) p2 (by omega) (by decide)
 refine⟨?_,by rw[hmod];omega,by rw[hmod];omega,hx1,by omega,by omega,?_⟩
 ·rw[iP (x*2 ^ k),uR (j:=k) hd.1 hd.2 (by omega) ?_ ?_ rfl]
  ·rw[hmod];exact Int.mul_emod_right _ _
  ·rw[e32,hmod];omega
 ·rw[Be (by decide)]
  rw[Bo]
  exact Int.mul_lt_mul_of_pos_left hx.2 (by omega)
theorem a3j {xs:List Int} {i:Nat} (h:i<xs.length) (d:Int):(xs.set i d).getD i 0=d:=by
 simp[Ab,h]
theorem a0y (xs:List Int) (j:Nat) (h:j<xs.length):wz (xs.drop j)=xs.getD j 0+4294967296*wz (xs.drop (j+1)):=by
 rw[A7 h]
 simp[wz,Ab,h]
theorem b3v {xs:List Int} {j:Nat} (d:Int):(xs.set j d).drop (j+1)=xs.drop (j+1):=by
 rw[List.drop_set_of_lt (by omega)]
theorem a3p {xs:List Int} {j:Nat} (h:j<xs.length) (d:Int):wz ((xs.set j d).drop j)=d+4294967296*wz (xs.drop (j+1)):=by
 rw[a0y _ _ (by simpa using h),a3j h,b3v]
theorem b3w {x y : Int} {k : Nat} (hk : k ≤ 31) (hx : 0 ≤ x ∧ x < 4294967296) (hy : 0 ≤ y ∧ y < 4294967296) :
  0≤(x+y*4294967296) / 2 ^ k∧(x+y*4294967296) / 2 ^ k≤x+y*4294967296 ∧
  (IntKind.u32.wrap ((x+y*4294967296) / 2 ^ k))*2 ^ k=x - x % 2 ^ k+4294967296*(y % 2 ^ k):=by
 obtain⟨p1,p2⟩:=tW hk
 have hsplit:(4294967296:Int)=2 ^ k*2 ^ (32 - k):=by
  rw[← Bu,show k+(32 - k)=32 by omega];decide
 have hm1:(0:Int)<2 ^ (32 - k):=Bj (by decide)
 generalize (2:Int) ^ k=c at *
 generalize (2:Int) ^ (32 - k)=m at *
 have hxm:=Bg x c
 have hym:=Bg y c
 have hx1:=Bf x (show c≠0 by omega)
 have hx2:=A5 x (show 0<c by omega)
 have hy1:=Bf y (show c≠0 by omega)
 have hy2:=A5 y (show 0<c by omega)
 have hq:(x+y*4294967296) / c=x / c+y*m:=by
  rw[hsplit,show x+y*(c*m)=x+c*(y*m) by grind,Int.add_mul_ediv_left _ _ (by omega)]
 have hxc:0≤x / c∧x / c<m:=by
  refine⟨Int.ediv_nonneg hx.1 (by omega),?_⟩
  rw[Be (by omega),Bo,← hsplit];exact hx.2
 have hym0:0≤y*m:=Af hy.1 (by omega)
 have hmod:(x / c+y*m) % 4294967296=x / c+(y % c)*m:=by
  have e:x / c+y*m=(x / c+(y % c)*m)+4294967296*(y / c):=by rw[hsplit];grind
  rw[e,A6]
  apply Am
  ·have:=Af hy1 (show 0≤m by omega);omega
  ·have:(y % c+1)*m≤c*m:=Aa (by omega) (by omega)
   rw[Int.add_mul,← hsplit]at this
   omega
 refine⟨by rw[hq];omega,?_,?_⟩
 ·exact Int.ediv_le_self _ (by omega)
 ·rw[iP,hq,hmod]
  have h1:(x / c+y % c*m)*c=c*(x / c)+(c*m)*(y % c):=by grind
  rw[h1,← hsplit]
  omega
theorem a2w {x y : Int} (hx : 0 ≤ x ∧ x < 4294967296) (hy : 0 ≤ y ∧ y < 4294967296) :
  IntKind.u64.wrap ((BitVec.ofInt IntKind.u64.bits x ||| BitVec.ofInt IntKind.u64.bits (y*4294967296)).toNat:Int)=x+y*4294967296:=by
 have e:(2:Int) ^ 32=4294967296:=by decide
 have e64:(2:Int) ^ IntKind.u64.bits=18446744073709551616:=by decide
 rw[uR (a:=x) (b:=y*4294967296) (j:=32) (by omega) (by omega) (by omega) (by omega) (by rw[e64];omega) rfl]
theorem c7f {xs:List Int} {k:Nat} (hk:k≤31):wz xs % 2 ^ k=xs.getD 0 0 % 2 ^ k:=by
 cases xs with
 | nil=>simp[wz]
 | cons x xs =>
  have hsplit:(4294967296:Int)=2 ^ k*2 ^ (32 - k):=by
   rw[← Bu,show k+(32 - k)=32 by omega];decide
  simp only[wz,List.getD_cons_zero]
  rw[hsplit,Int.mul_assoc,A6]
theorem j8 {A V C:List Int} {i:Nat} (h:i<V.length):(A++(V++C)).getD (A.length+i) 0=V.getD i 0:=by
 simp only[Ab]
 rw[List.getElem?_append_right (by omega),List.getElem?_append_left (by omega)]
 simp
theorem nE {A V C:List Int} {i:Nat} (h:i<V.length) (d:Int):(A++(V++C)).set (A.length+i) d=A++(V.set i d++C):=by
 rw[List.set_append_right _ _ (by omega),List.set_append_left _ _ (by omega)]
 simp
theorem lR {K:Nat→Prop} (k:IntKind) (xs:List Int):InC K (.vec 1 (aH k xs)):=by
 simp only[InC,jT]
end Go.Sx
namespace Go.Sx
set_option linter.unusedVariables false
structure Est (P D N t d2 d' u1 u0 u2 n':Int):Prop where
 hP:0<P
 hD:D=(t*4294967296+d2)*P+d'
 hN:N=((u1*4294967296+u0)*4294967296+u2)*P+n'
 ht:2147483648≤t∧t<4294967296
 hd2:0≤d2∧d2<4294967296
 hd':0≤d'∧d'<P
 hu1:0≤u1∧u1<4294967296
 hu0:0≤u0∧u0<4294967296
 hu2:0≤u2∧u2<4294967296
 hn':0≤n'∧n'<P
 hND:N<D*4294967296
variable {P D N t d2 d' u1 u0 u2 n':Int}
theorem Est.u1_le (h:Est P D N t d2 d' u1 u0 u2 n'):u1≤t:=by
 obtain⟨hP,hD,hN,ht,hd2,hd',hu1,hu0,hu2,hn',hND⟩:=h
 apply Int.not_lt.1
 intro hlt
 have h1:(t+1)*(4294967296*4294967296*P)≤u1*(4294967296*4294967296*P):=Aa (by omega) (by omega)
 have h2:0≤u0*(4294967296*P):=Af hu0.1 (by omega)
 have h3:0≤u2*P:=Af hu2.1 (by omega)
 have h4:d2*P≤4294967295*P:=Aa (by omega) (by omega)
 have h5:N=u1*(4294967296*4294967296*P)+u0*(4294967296*P)+u2*P+n':=by rw[hN];grind
 have h6:D=t*(4294967296*P)+d2*P+d':=by rw[hD];grind
 have h7:(t+1)*(4294967296*4294967296*P)=(t*(4294967296*P))*4294967296+4294967296*4294967296*P:=by grind
 omega
theorem Est.lower (h:Est P D N t d2 d' u1 u0 u2 n') {q r:Int} (hqr:q*t+r=u1*4294967296+u0) (hq0:0≤q) (hc:4294967295<q∨r*4294967296+u2<q*d2):N<q*D:=by
 obtain⟨hP,hD,hN,ht,hd2,hd',hu1,hu0,hu2,hn',hND⟩:=h
 have hDpos:0≤D:=by
  rw[hD]
  have:=Af (show 0≤t*4294967296+d2 by omega) (show 0≤P by omega)
  omega
 rcases hc with hc|hc
 ·have:4294967296*D≤q*D:=Aa (by omega) hDpos
  omega
 ·
  have h1:(r*4294967296+u2+1)*P≤q*d2*P:=Aa (by omega) (by omega)
  have h2:0≤q*d':=Af hq0 hd'.1
  have h3:q*D=q*t*(4294967296*P)+q*d2*P+q*d':=by rw[hD];grind
  have h4:N=(q*t+r)*(4294967296*P)+u2*P+n':=by rw[hN,hqr];grind
  have h5:(q*t+r)*(4294967296*P)=q*t*(4294967296*P)+r*4294967296*P:=by grind
  have h6:(r*4294967296+u2+1)*P=r*4294967296*P+u2*P+P:=by grind
  omega
theorem Est.close (h:Est P D N t d2 d' u1 u0 u2 n') {q r:Int} (hqr:q*t+r=u1*4294967296+u0) (hq:0≤q∧q≤4294967295) (hr:0≤r) (hc:4294967295<r∨q*d2≤r*4294967296+u2):(q - 1)*D≤N:=by
 obtain⟨hP,hD,hN,ht,hd2,hd',hu1,hu0,hu2,hn',hND⟩:=h
 have hc2:q*d2≤r*4294967296+u2:=by
  rcases hc with hc|hc
  ·have:=Bw hq.2 (show d2≤4294967295 by omega) hd2.1 (by decide)
   omega
  ·exact hc
 have h1:q*d2*P≤(r*4294967296+u2)*P:=Aa hc2 (by omega)
 have h2:q*d'≤4294967295*d':=Aa hq.2 hd'.1
 have h3:q*D=q*t*(4294967296*P)+q*d2*P+q*d':=by rw[hD];grind
 have h4:N=(q*t+r)*(4294967296*P)+u2*P+n':=by rw[hN,hqr];grind
 have h5:(q*t+r)*(4294967296*P)=q*t*(4294967296*P)+r*4294967296*P:=by grind
 have h6:(r*4294967296+u2)*P=r*4294967296*P+u2*P:=by grind
 have h7:(q - 1)*D=q*D - D:=by grind
 have h8:2147483648*(4294967296*P)≤t*(4294967296*P):=Aa ht.1 (by omega)
 have h9:0≤d2*P:=Af hd2.1 (by omega)
 have h10:D=t*(4294967296*P)+d2*P+d':=by rw[hD];grind
 omega
end Go.Sx
namespace Go.Sx
set_option linter.unusedVariables false
theorem In.mono {K K':Nat→Prop} {a:AV} (h:In K a) (hk:∀ l,K l→K' l):In K' a:=by
 induction h with
 | any=>exact .any
 | lit v=>exact .lit v
 | agg cs _ ih=>exact .agg cs ih
 | tup cs _ ih=>exact .tup cs ih
 | sl es _ ih=>exact .sl es ih
 | fp cs _ ih=>exact .fp cs ih
 | clo f cs _ ih=>exact .clo f cs ih
 | loc l o h=>exact .loc l o (hk l h)
 | ref l o n m h=>exact .ref l o n m (hk l h)
 | vp l i j m h=>exact .vp l i j m (hk l h)
 | bs l o k n h=>exact .bs l o k n (hk l h)
 | zs=>exact .zs
 | mp l h=>exact .mp l (hk l h)
theorem InC.mono {K K':Nat→Prop} {a:AV} (h:InC K a) (hk:∀ l,K l→K' l):InC K' a:=by
 cases a<;>simp only[InC]at h ⊢
 ·exact fun c hc=>(h c hc).mono hk
 ·exact fun e he c hc=>(h e he c hc).mono hk
 ·exact hk _ h
 ·exact fun e he c hc=>(h e he c hc).mono hk
 ·exact fun c hc=>(h c hc).mono hk
theorem j1 {P : Program} {f : Nat} {args : List AV} {i : Nat} {ob : Nat → AV} {E : Eff → Prop} (l : Nat) (a b r : AV) (hf : fnT P f = true) (hc : CallOK P f args [(l, a)] r [(l, b)]) (hob : ob l = a) (hin : ∀ x ∈ args, In (fun k => k = l) x)
  (ha:InC (fun _=>False) a) (hb:InC (fun _=>False) b) (hr:In (fun _=>False) r) (hl:a.live=true) (h:E ⟨r,[(l,b)],[l]⟩):callV P f args i ob E:=by
 refine .inr (.inl ⟨[(l,a)],r,[(l,b)],hf,hc,?_,?_,?_,by simp,hr,?_,by simp,?_,h⟩)
 ·intro p hp;simp only[Ae]at hp;subst hp;exact hob
 ·intro x hx;exact (hin x hx).mono fun k hk=>by simp[hk]
 ·intro p hp;simp only[Ae]at hp;subst hp;exact ha.mono fun k hk=>hk.elim
 ·intro p hp;simp only[Ae]at hp;subst hp;exact⟨by simp,hb.mono fun k hk=>hk.elim⟩
 ·intro k hk
  simp only[Ay,Bc,Ae]at hk
  subst hk
  rw[hob];exact hl
end Go.Sx
