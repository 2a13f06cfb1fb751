import Derived.Test.YtjlfgmhmalbiiaaGreatDoorW13
set_option linter.all false
set_option maxHeartbeats 3200000
open Array renaming toList → Al
open Int renaming mul_ediv_add_emod → Aa, pow_succ → Ad, le_refl → Ai, fdiv_eq_ediv_of_nonneg → Aj, ediv_lt_iff_lt_mul → Ak, emod_lt_of_pos → An, mul_zero → Ao, pow_pos → Ap, ediv_nonneg → Ar, emod_nonneg → As, mul_nonneg → At, mul_le_mul → Au, add_comm → Ax
open List renaming getD_eq_getElem?_getD → Af, replicate → Ag, getElem?_eq_none → Ah, length_replicate → Am, length_set → Aq, drop_zero → Av
open Nat renaming reduceAdd → Ab, le_refl → Ac, zero_le → Ae, le_of_eq → Aw
namespace Go.Proofs.Vx
open Go Go.Sx Go.Proofs Tryz
attribute [local irreducible] fnT CallOK CallFr AW aI callV aL aJ aH aK gcaseP hid
theorem c148 (a b:ByteArray) (ha:a.size<274877906944) (hb:b.size<274877906944):CallOK prog 148 [.lit (.string a),.lit (.string b)] [] (.tup [.lit (.string (if nv a<nv b then ⟨#[]⟩else nb (nv a - nv b))),.lit (.bool (decide (nv b≤nv a)))]) []:=by
 refine zs func148 52 [.tmp 4,.tmp 5] results148 ?_
 simp only[aD,Ab]
 have la:=m9 a
 have lb:=m9 b
 have da:=lG (nv a)
 have db:=lG (nv b)
 have wa:=lK (nv a)
 have wb:=lK (nv b)
 have lab:nv b≤nv a→(lmN (nv b)).length≤(lmN (nv a)).length:=a5y
 have hc:=@c6p (nv a) (nv b)
 repeat'(first|refine zk ?_|(refine zu ?_ ?_<;>intro hc)|(first|refine cX (.sl (aG .u32 (lmN (nv a)))) iU (jB a (by omega)) (by simp -dsimp (disch:=try exact zo)only[go_sem]) (by rw[kB,jH];trivial) ?_|refine cX (.sl (aG .u32 (lmN (nv b)))) iU (jB b (by omega)) (by simp -dsimp (disch:=try exact zo)only[go_sem]) (by rw[kB,jH];trivial) ?_)|(refine zf (c195 a b (by omega) (by omega)) ?_)|(refine zv ?_ ?_<;>intro hg)|omega|simp -dsimp (disch:=try exact zo)only[go_sem]|contradiction|rfl)
 ·have h:nv a<nv b:=by omega
  simp only[if_pos h,show ¬ nv b≤nv a by omega,decide_false]
 have h:¬ nv a<nv b:=by omega
 simp only[if_neg h,show nv b≤nv a by omega,decide_true]
 generalize lmN (nv a)=xs at *
 generalize lmN (nv b)=ys at *
 have hl:=lab (by omega)
 refine AW.loop (fun z:{p:Nat × List Int × Int // p.1≤xs.length∧Dig p.2.1∧p.2.1.length=xs.length∧(0≤p.2.2∧p.2.2≤1)∧wz (p.2.1.take p.1) - 4294967296 ^ p.1*p.2.2=wz (xs.take p.1) - wz (ys.take p.1)}=>⟨[(25,.lit (.int .i64 z.1.1)),(24,.lit (.int .i64 xs.length)),(23,.sl (aG .u32 xs)),(9,.lit (.int .u32 z.1.2.2)),(8,.ref 22 0 xs.length xs.length),(6,.sl (aG .u32 xs)),(7,.sl (aG .u32 ys))],[(22,.vec 1 (aG .u32 z.1.2.1))],30⟩) (fun z=>xs.length - z.1.1) ⟨(0,Ag xs.length 0,0),Ae _,Dig.rep _,by simp,⟨Ai 0,Int.zero_le_ofNat 1⟩,by simp[wz]⟩ zw ?_
 rintro⟨⟨i,out,c⟩,hi,dO,ho,hc1,hv⟩
 dsimp only at hi dO ho hc1 hv ⊢
 have dxi:=da.getD i
 have dyi:=db.getD i
 have step : i < xs.length → ∀ y, y = ys.getD i 0 → Dig (out.set i ((xs.getD i 0 - y - c) % 4294967296)) ∧ (0 ≤ (if xs.getD i 0 < y + c then (1 : Int) else 0) ∧ (if xs.getD i 0 < y + c then (1 : Int) else 0) ≤ 1) ∧
   wz ((out.set i ((xs.getD i 0 - y - c) % 4294967296)).take (i+1)) - 4294967296 ^ (i+1)*(if xs.getD i 0<y+c then (1:Int)else 0)=wz (xs.take (i+1)) - wz (ys.take (i+1)):=by
  rintro hlt y rfl
  refine⟨dO.set (by omega),by split<;>omega,?_⟩
  rw[jQ (by omega),cN,cN,Ad]
  have:(xs.getD i 0 - ys.getD i 0 - c) % 4294967296=xs.getD i 0 - ys.getD i 0 - c+4294967296*(if xs.getD i 0<ys.getD i 0+c then (1:Int)else 0):=by split<;>omega
  rw[this]
  generalize (if xs.getD i 0<ys.getD i 0+c then (1:Int)else 0)=d
  grind
 have fin:xs.length≤i→wv out=nv a - nv b:=by
  intro hge
  obtain rfl:i=xs.length:=by omega
  have h1:=rA dO
  rw[dF (Aw ho),dF (Ac _),dF hl]at hv
  have h2:=jL dO
  rw[ho]at h2
  have h3:=dT dO
  have hp:(0:Int)<4294967296 ^ xs.length:=Ap (by decide)
  rcases (show c=0∨c=1 by omega)with rfl|rfl
  ·omega
  ·omega
 repeat'(first|refine zk ?_|(refine zu ?_ ?_<;>intro hc)|(refine zf (c196 _ _ _ (by omega) (by omega) (by omega)) ?_)|(refine iA (.lit (.string (nb (wv out)))) oA (o8 out (by omega) dO) rfl (by simp only[bT,Aq,Am];omega) (by simp -dsimp (disch:=try exact zo)only[go_sem]) (.lit _) ?_)|(refine zv ?_ ?_<;>intro hg)|omega|simp -dsimp (disch:=try exact zo)only[go_sem]|contradiction|rfl)
 ·obtain⟨s1,s2,s3⟩:=step (by omega) _ rfl
  exact AW.stop ⟨⟨(i+1,out.set i ((xs.getD i 0 - ys.getD i 0 - c) % 4294967296),if xs.getD i 0<ys.getD i 0+c then 1 else 0),by dsimp only;omega,s1,by simpa using ho,s2,s3⟩,zw,by dsimp only;omega⟩
 ·obtain⟨s1,s2,s3⟩:=step (by omega) 0 (by rw[Af,Ah (by omega)];rfl)
  exact AW.stop ⟨⟨(i+1,out.set i ((xs.getD i 0 - 0 - c) % 4294967296),if xs.getD i 0<0+c then 1 else 0),by dsimp only;omega,s1,by simpa using ho,s2,s3⟩,zw,by dsimp only;omega⟩
 ·rw[fin (by omega)]
end Go.Proofs.Vx
namespace Go.Proofs.Vx
open Go Go.Sx Go.Proofs Tryz
attribute [local irreducible] fnT CallOK CallFr AW aI callV aL aJ aH aK gcaseP hid
theorem c149 (a b:ByteArray) (ha:a.size<274877906944) (hb:b.size<274877906944):CallOK prog 149 [.lit (.string a),.lit (.string b)] [] (.lit (.string (nb (nv a*nv b)))) []:=by
 refine zs func149 74 [.tmp 4] results149 ?_
 simp only[aD,Ab]
 have la:=m9 a
 have lb:=m9 b
 have da:=lG (nv a)
 have db:=lG (nv b)
 have wa:=lK (nv a)
 have wb:=lK (nv b)
 repeat'(first|refine zk ?_|(refine zu ?_ ?_<;>intro hc)|(first|refine cX (.sl (aG .u32 (lmN (nv a)))) iU (jB a (by omega)) (by simp -dsimp (disch:=try exact zo)only[go_sem]) (by rw[kB,jH];trivial) ?_|refine cX (.sl (aG .u32 (lmN (nv b)))) iU (jB b (by omega)) (by simp -dsimp (disch:=try exact zo)only[go_sem]) (by rw[kB,jH];trivial) ?_)|(refine zv ?_ ?_<;>intro hg)|omega|simp -dsimp (disch:=try exact zo)only[go_sem]|contradiction|rfl)
 generalize lmN (nv a)=xs at *
 generalize lmN (nv b)=ys at *
 have eN:((xs.length:Int)+ys.length).toNat=xs.length+ys.length:=by omega
 rw[eN]
 generalize hN:xs.length+ys.length=N at *
 refine AW.loop (fun z:{p:Nat × List Int // p.1≤xs.length∧Dig p.2∧p.2.length=N∧wz p.2=wz (xs.take p.1)*wz ys∧∀ j,p.1+ys.length≤j→p.2.getD j 0=0}=>⟨[(24,.lit (.int .i64 z.1.1)),(23,.lit (.int .i64 xs.length)),(22,.sl (aG .u32 xs)),(7,.ref 20 0 N N),(5,.sl (aG .u32 xs)),(6,.sl (aG .u32 ys))],[(20,.vec 1 (aG .u32 z.1.2))],25⟩) (fun z=>xs.length - z.1.1) ⟨(0,Ag N 0),Ae _,Dig.rep _,by simp,by simp[wz,a9f],fun j _=>a6b _ _⟩ zw ?_
 rintro⟨⟨i,out⟩,hi,dO,ho,hv,hz⟩
 dsimp only at hi dO ho hv hz ⊢
 have dxi:=da.getD i
 have fin:xs.length≤i→wv out=nv a*nv b:=by
  intro hge
  have h1:=rA dO
  rw[dF hge]at hv
  rw[wa,wb]at hv
  have:((nv a*nv b:Nat):Int)=(nv a:Int)*nv b:=by norm_cast
  omega
 repeat'(first|refine zk ?_|(refine zu ?_ ?_<;>intro hc)|(refine iA (.lit (.string (nb (wv out)))) oA (o8 out (by omega) dO) rfl (by simp only[bT,Aq,Am];omega) (by simp -dsimp (disch:=try exact zo)only[go_sem]) (.lit _) ?_)|(refine zv ?_ ?_<;>intro hg)|omega|simp -dsimp (disch:=try exact zo)only[go_sem]|contradiction|rfl)
 ·have hi':i<xs.length:=by omega
  refine AW.loop (fun z:{p:Nat × List Int × Int // p.1≤ys.length∧Dig p.2.1∧p.2.1.length=N∧(0≤p.2.2∧p.2.2<4294967296)∧wz p.2.1+4294967296 ^ (i+p.1)*p.2.2=wz out+xs.getD i 0*4294967296 ^ i*wz (ys.take p.1)∧∀ j,i+ys.length≤j→p.2.1.getD j 0=0}=>⟨[(29,.lit (.int .i64 z.1.1)),(28,.lit (.int .i64 ys.length)),(27,.sl (aG .u32 ys)),(9,.lit (.int .u64 z.1.2.2)),(8,.lit (.int .i64 i)),(24,.lit (.int .i64 i)),(23,.lit (.int .i64 xs.length)),(22,.sl (aG .u32 xs)),(7,.ref 20 0 N N),(5,.sl (aG .u32 xs)),(6,.sl (aG .u32 ys))],[(20,.vec 1 (aG .u32 z.1.2.1))],32⟩) (fun z=>ys.length - z.1.1) ⟨(0,out,0),Ae _,dO,ho,⟨Ai 0,by simp⟩,by simp[wz],hz⟩ zw ?_
  rintro⟨⟨k,o2,c⟩,hk,dP,hp,hc1,hw,hy⟩
  dsimp only at hk dP hp hc1 hw hy ⊢
  have dyk:=db.getD k
  have dok:=dP.getD (i+k)
  have eik:((i:Int)+k).toNat=i+k:=by omega
  have ein:((i:Int)+ys.length).toNat=i+ys.length:=by omega
  have hpr:0≤xs.getD i 0*ys.getD k 0∧xs.getD i 0*ys.getD k 0≤18446744065119617025:=by
   have h1:=At dxi.1 dyk.1
   have h2:=Au (show xs.getD i 0≤4294967295 by omega) (show ys.getD k 0≤4294967295 by omega) dyk.1 (by decide)
   omega
  have step:k<ys.length→wz (o2.set (i+k) (IntKind.u32.wrap (xs.getD i 0*ys.getD k 0+o2.getD (i+k) 0+c)))+4294967296 ^ (i+(k+1))*((xs.getD i 0*ys.getD k 0+o2.getD (i+k) 0+c) / 4294967296)=wz out+xs.getD i 0*4294967296 ^ i*wz (ys.take (k+1)):=by
   intro hlt
   rw[a9e (by omega),cN,iD,← Nat.add_assoc,Ad]
   have:=Aa (xs.getD i 0*ys.getD k 0+o2.getD (i+k) 0+c) 4294967296
   have hpw:(4294967296:Int) ^ (i+k)=4294967296 ^ i*4294967296 ^ k:=Int.pow_add _ _ _
   grind
  have fin2:ys.length≤k→wz (o2.set (i+ys.length) c)=wz (xs.take (i+1))*wz ys:=by
   intro hge
   rw[a9e (by omega),hy _ (Ac _),cN]
   obtain rfl:k=ys.length:=by omega
   rw[dF (Ac _)]at hw
   grind
  repeat'(first|refine zk ?_|(refine zu ?_ ?_<;>intro hc)|(refine zv ?_ ?_<;>intro hg)|omega|simp -dsimp (disch:=try exact zo)only[go_sem,eik,ein]|contradiction|rfl)
  ·exact AW.stop ⟨⟨(k+1,o2.set (i+k) (IntKind.u32.wrap (xs.getD i 0*ys.getD k 0+o2.getD (i+k) 0+c)),(xs.getD i 0*ys.getD k 0+o2.getD (i+k) 0+c) / 4294967296),by dsimp only;omega,dP.set (tX _),by simpa using hp,by dsimp only;omega,step (by omega),fun j hj=>by dsimp only;rw[vB (by omega)];exact hy j hj⟩,zw,by dsimp only;omega⟩
  ·exact AW.stop ⟨⟨(i+1,o2.set (i+ys.length) c),by dsimp only;omega,dP.set hc1,by simpa using hp,fin2 (by omega),fun j hj=>by dsimp only at hj ⊢;rw[vB (by omega)];exact hy j (by omega)⟩,zw,by dsimp only;omega⟩
 ·rw[fin (by omega)]
end Go.Proofs.Vx
namespace Go.Proofs.Vx
open Go Go.Sx Go.Proofs Tryz
attribute [local irreducible] fnT CallOK CallFr AW aI callV aL aJ aH aK gcaseP hid
theorem c3l:kiT prog 3=some .i64∧bH prog 3=false:=by and_intros<;>kernel_rfl
attribute [go_sem] c3l
theorem c255 (h l y:Int) (hh:0≤h∧h<y) (hl:0≤l∧l<4294967296) (hy:y<4294967296):CallOK prog 255 [.lit (.int .u32 h),.lit (.int .u32 l),.lit (.int .u32 y)] [] (.tup [.lit (.int .u32 ((h*4294967296+l) / y)),.lit (.int .u32 ((h*4294967296+l) % y))]) []:=by
 refine zs func255 33 [.tmp 6,.tmp 7] results255 ?_
 simp only[aD,Ab]
 have hor:IntKind.u64.wrap ((BitVec.ofInt IntKind.u64.bits (h*4294967296) ||| BitVec.ofInt IntKind.u64.bits l).toNat:Int)=h*4294967296+l:=by
  have e:(2:Int) ^ 32=4294967296:=by decide
  have e64:(2:Int) ^ IntKind.u64.bits=18446744073709551616:=by decide
  rw[BitVec.or_comm,uA (a:=l) (b:=h*4294967296) (j:=32) (by omega) (by omega) (by omega) (by omega) (by rw[e64];omega) rfl]
  omega
 have hq:0≤(h*4294967296+l) / y∧(h*4294967296+l) / y<4294967296:=by
  refine⟨Ar (by omega) (by omega),?_⟩
  rw[Ak (by omega)]
  omega
 have hr1:=As (h*4294967296+l) (show y≠0 by omega)
 have hr2:=An (h*4294967296+l) (show 0<y by omega)
 have hy0:(y=0)=False:=by simp;omega
 have hyh:(y≤h)=False:=by simp;omega
 exact z1
theorem c4g:((([0,1,2,2,3,3,3,3,4,4,4,4,4,4,4,4,5,5,5,5,5,5,5,5,5,5,5,5,5,5,5,5,6,6,6,6,6,6,6,6,6,6,6,6,6,6,6,6,6,6,6,6,6,6,6,6,6,6,6,6,6,6,6,6]:List UInt8).append [7,7,7,7,7,7,7,7,7,7,7,7,7,7,7,7,7,7,7,7,7,7,7,7,7,7,7,7,7,7,7,7,7,7,7,7,7,7,7,7,7,7,7,7,7,7,7,7,7,7,7,7,7,7,7,7,7,7,7,7,7,7,7,7]).append ([8,8,8,8,8,8,8,8,8,8,8,8,8,8,8,8,8,8,8,8,8,8,8,8,8,8,8,8,8,8,8,8,8,8,8,8,8,8,8,8,8,8,8,8,8,8,8,8,8,8,8,8,8,8,8,8,8,8,8,8,8,8,8,8].append [8,8,8,8,8,8,8,8,8,8,8,8,8,8,8,8,8,8,8,8,8,8,8,8,8,8,8,8,8,8,8,8,8,8,8,8,8,8,8,8,8,8,8,8,8,8,8,8,8,8,8,8,8,8,8,8,8,8,8,8,8,8,8,8])).length=256:=by kernel_rfl
theorem c7x:b0x ((([0,1,2,2,3,3,3,3,4,4,4,4,4,4,4,4,5,5,5,5,5,5,5,5,5,5,5,5,5,5,5,5,6,6,6,6,6,6,6,6,6,6,6,6,6,6,6,6,6,6,6,6,6,6,6,6,6,6,6,6,6,6,6,6]:List UInt8).append [7,7,7,7,7,7,7,7,7,7,7,7,7,7,7,7,7,7,7,7,7,7,7,7,7,7,7,7,7,7,7,7,7,7,7,7,7,7,7,7,7,7,7,7,7,7,7,7,7,7,7,7,7,7,7,7,7,7,7,7,7,7,7,7]).append ([8,8,8,8,8,8,8,8,8,8,8,8,8,8,8,8,8,8,8,8,8,8,8,8,8,8,8,8,8,8,8,8,8,8,8,8,8,8,8,8,8,8,8,8,8,8,8,8,8,8,8,8,8,8,8,8,8,8,8,8,8,8,8,8].append [8,8,8,8,8,8,8,8,8,8,8,8,8,8,8,8,8,8,8,8,8,8,8,8,8,8,8,8,8,8,8,8,8,8,8,8,8,8,8,8,8,8,8,8,8,8,8,8,8,8,8,8,8,8,8,8,8,8,8,8,8,8,8,8]))=true:=by kernel_rfl
theorem c7y (x:Int) (h:0≤x) (h2:x<256):bt ⟨((([0,1,2,2,3,3,3,3,4,4,4,4,4,4,4,4,5,5,5,5,5,5,5,5,5,5,5,5,5,5,5,5,6,6,6,6,6,6,6,6,6,6,6,6,6,6,6,6,6,6,6,6,6,6,6,6,6,6,6,6,6,6,6,6]:List UInt8).append [7,7,7,7,7,7,7,7,7,7,7,7,7,7,7,7,7,7,7,7,7,7,7,7,7,7,7,7,7,7,7,7,7,7,7,7,7,7,7,7,7,7,7,7,7,7,7,7,7,7,7,7,7,7,7,7,7,7,7,7,7,7,7,7]).append ([8,8,8,8,8,8,8,8,8,8,8,8,8,8,8,8,8,8,8,8,8,8,8,8,8,8,8,8,8,8,8,8,8,8,8,8,8,8,8,8,8,8,8,8,8,8,8,8,8,8,8,8,8,8,8,8,8,8,8,8,8,8,8,8].append [8,8,8,8,8,8,8,8,8,8,8,8,8,8,8,8,8,8,8,8,8,8,8,8,8,8,8,8,8,8,8,8,8,8,8,8,8,8,8,8,8,8,8,8,8,8,8,8,8,8,8,8,8,8,8,8,8,8,8,8,8,8,8,8])).toArray⟩ x.toNat=(bJ x.toNat:Int):=b9n c7x (by omega)
theorem b5v (n:Int):n.fdiv (2 ^ min 16 32)=n / 65536:=by
 have e:(2:Int) ^ min 16 32=65536:=by decide
 rw[e,Aj _ (by decide)]
theorem b9q (n:Int):n.fdiv (2 ^ min 8 32)=n / 256:=by
 have e:(2:Int) ^ min 8 32=256:=by decide
 rw[e,Aj _ (by decide)]
theorem c205 (x:Int) (hx:0≤x∧x<4294967296):CallOK prog 205 [.lit (.int .u32 x)] [] (.lit (.int .i64 (bJ x.toNat))) []:=by
 refine zs func205 19 [.tmp 2] results205 ?_
 simp only[aD,Ab]
 have b0:x<256→bJ x.toNat≤8:=fun h=>oH (k:=8) (by omega)
 have b1:x<16777216→bJ (x / 65536).toNat≤8:=fun h=>oH (k:=8) (by omega)
 have b2:x<65536→bJ (x / 256).toNat≤8:=fun h=>oH (k:=8) (by omega)
 have b3:bJ (x / 65536 / 256).toNat≤8:=oH (k:=8) (by omega)
 have s1:65536≤x→bJ x.toNat=16+bJ (x / 65536).toNat:=fun h=>by
  rw[yX x.toNat 16 (by omega)];congr 2;omega
 have s2:256≤x→bJ x.toNat=8+bJ (x / 256).toNat:=fun h=>by
  rw[yX x.toNat 8 (by omega)];congr 2;omega
 have s3:256≤x / 65536→bJ (x / 65536).toNat=8+bJ (x / 65536 / 256).toNat:=fun h=>by
  rw[yX (x / 65536).toNat 8 (by omega)];congr 2;omega
 repeat'(first|refine zk ?_|(refine zu ?_ ?_<;>intro hc)|(refine zv ?_ ?_<;>intro hg)|omega|simp -dsimp (disch:=try exact zo)only[go_sem,c4g,c7y,b5v,b9q]|contradiction|rfl)
 all_goals (congr 2;omega)
theorem c256 (x:Int) (hx:0≤x∧x<4294967296):CallOK prog 256 [.lit (.int .u32 x)] [] (.lit (.int .i64 (32 - (bJ x.toNat:Int)))) []:=by
 refine zs func256 6 [.tmp 2] results256 ?_
 simp only[aD,Ab]
 have b0:bJ x.toNat≤32:=oH (k:=32) (by omega)
 repeat'(first|refine zk ?_|(refine zu ?_ ?_<;>intro hc)|refine zf (c205 _ hx) ?_|(refine zv ?_ ?_<;>intro hg)|omega|simp -dsimp (disch:=try exact zo)only[go_sem]|contradiction|rfl)
end Go.Proofs.Vx
namespace Go.Proofs.Vx
open Go Go.Sx Go.Proofs Tryz
attribute [local irreducible] fnT CallOK CallFr AW aI callV aL aJ aH aK gcaseP hid
theorem c257 (xs:List Int) (k:Nat) (hk:k≤31) (hn:xs.length<1099511627776) (dx:Dig xs):CallFr prog 257 [.sl (aG .u32 xs),.lit (.int .i64 k)] 1 (aG .u32 (dgp (xs.length+1) (wz xs*2 ^ k).toNat)):=by
 refine CallFr.flat func257 rfl 41 rfl rfl (a4v _ _) [.tmp 4] (congrArg Al results257) ?_
 simp only[aD,Ab]
 have hk64:min k 64=k:=by omega
 have eN:((xs.length:Int)+1).toNat=xs.length+1:=by omega
 repeat'(first|refine zk ?_|(refine zu ?_ ?_<;>intro hc)|(refine zv ?_ ?_<;>intro hg)|omega|simp -dsimp (disch:=try exact zo)only[go_sem,eN]|contradiction|rfl)
 refine AW.loop (fun z:{p:Nat × List Int // p.1≤xs.length∧Dig p.2∧p.2.length=xs.length+1∧(p.2.getD p.1 0<2 ^ k)∧wz (p.2.take (p.1+1))=wz (xs.take p.1)*2 ^ k}=>⟨[(15,.lit (.int .i64 z.1.1)),(14,.lit (.int .i64 xs.length)),(13,.sl (aG .u32 xs)),(1,.lit (.int .i64 k)),(5,.ref 12 0 (xs.length+1) (xs.length+1))],[(12,.vec 1 (aG .u32 z.1.2))],17⟩) (fun z=>xs.length - z.1.1) ⟨(0,Ag (xs.length+1) 0),Ae _,Dig.rep _,by simp,by dsimp only;rw[a6b];exact Ap (by decide),by simp[wz,a9f]⟩ zw ?_
 rintro⟨⟨i,out⟩,hi,dO,ho,hd,hv⟩
 dsimp only at hi dO ho hd hv ⊢
 obtain⟨s1,s2,s3,s4,s5,s6,s7⟩:=b4e hk (dx.getD i) ⟨(dO.getD i).1,hd⟩
 obtain⟨p1,p2⟩:=tE hk
 have dxi:=dx.getD i
 have ei:((i:Int)+1).toNat=i+1:=by omega
 have step:i<xs.length→wz (((out.set i (out.getD i 0+xs.getD i 0*2 ^ k % 4294967296)).set (i+1) (xs.getD i 0*2 ^ k / 4294967296)).take (i+1+1))=wz (xs.take (i+1))*2 ^ k:=by
  intro hlt
  rw[jQ (by simp;omega),jQ (by omega),cN xs,Ad]
  rw[cN]at hv
  have:=Aa (xs.getD i 0*2 ^ k) 4294967296
  grind
 have fin:xs.length≤i→out=dgp (xs.length+1) (wz xs*2 ^ k).toNat:=by
  intro hge
  rw[dF (by omega),dF hge]at hv
  exact qT dO ho hv
 repeat'(first|refine zj ?_|(refine zu ?_ ?_<;>intro hc)|(refine AW.ret (qF ?_);simp -dsimp (disch:=try exact zo)only[go_sem,hk64,ei,s1]<;>try (refine⟨_,rfl,?_⟩;simp -dsimp (disch:=try exact zo)only[go_sem]))|(refine zv ?_ ?_<;>intro hg)|omega|simp -dsimp (disch:=try exact zo)only[go_sem,hk64,ei,s1]|contradiction)
 ·exact AW.stop ⟨⟨(i+1,(out.set i (out.getD i 0+xs.getD i 0*2 ^ k % 4294967296)).set (i+1) (xs.getD i 0*2 ^ k / 4294967296)),by dsimp only;omega,(dO.set ⟨s2,s3⟩).set ⟨s6,by omega⟩,by simpa using ho,by dsimp only;rw[a2k (by simp;omega)];exact s7,step (by omega)⟩,zw,by dsimp only;omega⟩
 ·rw[← fin (by omega)]
end Go.Proofs.Vx
namespace Go.Proofs.Vx
open Go Go.Sx Go.Proofs Tryz
attribute [local irreducible] fnT CallOK CallFr AW aI callV aL aJ aH aK gcaseP hid
theorem xD {K:Nat→Prop} {a b:AV} (h:In K a) (h':In K b):In K (.tup [a,b]):=.tup _ fun c hc=>by
 simp only[zM,or_false]at hc
 rcases hc with rfl|rfl<;>assumption
theorem fE {K:Nat→Prop} (k:IntKind) (xs:List Int):In K (.sl (aG k xs)):=by rw[kB,jH];trivial
theorem c239 (xs:List Int) (y:Int) (hy:0<y∧y<4294967296) (hn:xs.length<1099511627776) (dx:Dig xs):CallOK prog 239 [.sl (aG .u32 xs),.lit (.int .u32 y)] [] (.tup [.sl (aG .u32 (dgp xs.length (wz xs / y).toNat)),.lit (.int .u32 (wz xs % y))]) []:=by
 refine fV func239 rfl 39 rfl rfl (by exact xD (fE _ _) (.lit _)) [.tmp 4,.tmp 5] (congrArg Al results239) ?_
 simp only[aD,Ab]
 repeat'(first|refine zk ?_|(refine zu ?_ ?_<;>intro hc)|(refine zv ?_ ?_<;>intro hg)|omega|simp -dsimp (disch:=try exact zo)only[go_sem]|contradiction|rfl)
 refine AW.loop (fun z:{p:Nat × List Int × Int // p.1≤xs.length∧Dig p.2.1∧p.2.1.length=xs.length∧(0≤p.2.2∧p.2.2<y)∧wz (p.2.1.drop (xs.length - p.1))*y+p.2.2=wz (xs.drop (xs.length - p.1))}=>⟨[(15,.lit (.int .i64 z.1.1)),(14,.lit (.int .i64 xs.length)),(0,.sl (aG .u32 xs)),(1,.lit (.int .u32 y)),(7,.lit (.int .u32 z.1.2.2)),(6,.ref 12 0 xs.length xs.length)],[(12,.vec 1 (aG .u32 z.1.2.1))],18⟩) (fun z=>xs.length - z.1.1) ⟨(0,Ag xs.length 0,0),Ae _,Dig.rep _,by simp,⟨Ai 0,hy.1⟩,by simp[wz]⟩ zw ?_
 rintro⟨⟨i,out,r⟩,hi,dO,ho,hr,hv⟩
 dsimp only at hi dO ho hr hv ⊢
 have ek:i<xs.length→((xs.length:Int) - 1 - i).toNat=xs.length - 1 - i:=by omega
 have dxk:=dx.getD (xs.length - 1 - i)
 have hq1:0≤(r*4294967296+xs.getD (xs.length - 1 - i) 0) / y:=Ar (by omega) (by omega)
 have hq2:(r*4294967296+xs.getD (xs.length - 1 - i) 0) / y<4294967296:=by
  rw[Ak (by omega)];omega
 have hr1:=As (r*4294967296+xs.getD (xs.length - 1 - i) 0) (show y≠0 by omega)
 have hr2:=An (r*4294967296+xs.getD (xs.length - 1 - i) 0) (show 0<y by omega)
 have step:i<xs.length→wz ((out.set (xs.length - 1 - i) ((r*4294967296+xs.getD (xs.length - 1 - i) 0) / y)).drop (xs.length - (i+1)))*y+(r*4294967296+xs.getD (xs.length - 1 - i) 0) % y=wz (xs.drop (xs.length - (i+1))):=by
  intro hlt
  rw[show xs.length - (i+1)=xs.length - 1 - i by omega,a2q (by omega),a0b xs _ (by omega)]
  rw[show xs.length - i=xs.length - 1 - i+1 by omega]at hv
  have:=Aa (r*4294967296+xs.getD (xs.length - 1 - i) 0) y
  grind
 have fin:xs.length≤i→out=dgp xs.length (wz xs / y).toNat∧r=wz xs % y:=by
  intro hge
  rw[show xs.length - i=0 by omega,Av,Av]at hv
  have e1:wz xs / y=wz out:=by
   rw[← hv,Ax,Int.add_mul_ediv_right _ _ (by omega),Int.ediv_eq_zero_of_lt hr.1 hr.2];omega
  have e2:wz xs % y=r:=by
   rw[← hv,Ax,Int.add_mul_emod_self_right,Int.emod_eq_of_lt hr.1 hr.2]
  rw[e1,e2]
  exact⟨qT dO ho rfl,rfl⟩
 repeat'(first|refine zk ?_|(refine zu ?_ ?_<;>intro hc)|(refine zf (c255 _ _ _ (by omega) (by omega) (by omega)) ?_)|(refine zv ?_ ?_<;>intro hg)|omega|simp -dsimp (disch:=try exact zo)only[go_sem,ek,oG]|contradiction|rfl)
 ·exact AW.stop ⟨⟨(i+1,out.set (xs.length - 1 - i) ((r*4294967296+xs.getD (xs.length - 1 - i) 0) / y),(r*4294967296+xs.getD (xs.length - 1 - i) 0) % y),by dsimp only;omega,dO.set ⟨hq1,hq2⟩,by simpa using ho,⟨hr1,hr2⟩,step (by omega)⟩,zw,by dsimp only;omega⟩
 ·have h0:=oG (k:=.u32) ho
  simp only[ho,true_and]
  rw[h0,← (fin (by omega)).1,← (fin (by omega)).2]
theorem c259 (xs:List Int) (k:Nat) (hk:k≤31) (hn:xs.length<1099511627776) (dx:Dig xs):CallFr prog 259 [.sl (aG .u32 xs),.lit (.int .i64 k)] 1 (aG .u32 (dgp xs.length (wz xs / 2 ^ k).toNat)):=by
 refine CallFr.flat func259 rfl 44 rfl rfl (a4v _ _) [.tmp 4] (congrArg Al results259) ?_
 simp only[aD,Ab]
 have hk64:min k 64=k:=by omega
 obtain⟨p1,p2⟩:=tE hk
 repeat'(first|refine zk ?_|(refine zu ?_ ?_<;>intro hc)|(refine zv ?_ ?_<;>intro hg)|omega|simp -dsimp (disch:=try exact zo)only[go_sem]|contradiction|rfl)
 refine AW.loop (fun z:{p:Nat × List Int // p.1≤xs.length∧Dig p.2∧p.2.length=xs.length∧wz (p.2.take p.1)*2 ^ k=wz (xs.take p.1) - xs.getD 0 0 % 2 ^ k+4294967296 ^ p.1*(xs.getD p.1 0 % 2 ^ k)}=>⟨[(13,.lit (.int .i64 z.1.1)),(12,.lit (.int .i64 xs.length)),(0,.sl (aG .u32 xs)),(1,.lit (.int .i64 k)),(5,.ref 11 0 xs.length xs.length)],[(11,.vec 1 (aG .u32 z.1.2))],16⟩) (fun z=>xs.length - z.1.1) ⟨(0,Ag xs.length 0),Ae _,Dig.rep _,by simp,by simp[wz];omega⟩ zw ?_
 rintro⟨⟨i,out⟩,hi,dO,ho,hv⟩
 dsimp only at hi dO ho hv ⊢
 have dxi:=dx.getD i
 have dxj:=dx.getD (i+1)
 have ei:((i:Int)+1).toNat=i+1:=by omega
 have hor:=a1y dxi dxj
 obtain⟨u1,u2,u3⟩:=b2t hk dxi dxj
 have u4:xs.length≤i+1→xs.getD (i+1) 0=0:=fun h=>by rw[Af,Ah h];rfl
 have step:∀ d,d=IntKind.u32.wrap ((xs.getD i 0+xs.getD (i+1) 0*4294967296) / 2 ^ k)→i<xs.length→wz ((out.set i d).take (i+1))*2 ^ k=wz (xs.take (i+1)) - xs.getD 0 0 % 2 ^ k+4294967296 ^ (i+1)*(xs.getD (i+1) 0 % 2 ^ k):=by
  rintro d rfl hlt
  rw[jQ (by omega),cN,Ad]
  grind
 have fin:xs.length≤i→out=dgp xs.length (wz xs / 2 ^ k).toNat:=by
  intro hge
  obtain rfl:i=xs.length:=by omega
  rw[dF (Aw ho),dF (Ac _),← c5n hk,Af,Ah (Ac _)]at hv
  have h1:=Aa (wz xs) (2 ^ k)
  have h2:wz out=wz xs / 2 ^ k:=by
   apply Int.eq_of_mul_eq_mul_right (a:=2 ^ k) (by omega)
   rw[hv]
   simp only[Option.getD_none,Int.zero_emod,Ao]
   rw[Int.mul_comm (wz xs / 2 ^ k)]
   omega
  exact qT dO ho h2
 repeat'(first|refine zj ?_|(refine zu ?_ ?_<;>intro hc)|(refine AW.ret (qF ?_);simp -dsimp (disch:=try exact zo)only[go_sem,ei,hk64,a8i,hor]<;>try (refine⟨_,rfl,?_⟩;simp -dsimp (disch:=try exact zo)only[go_sem]))|(refine zv ?_ ?_<;>intro hg)|omega|simp -dsimp (disch:=try exact zo)only[go_sem,ei,hk64,a8i,hor]|contradiction)
 ·exact AW.stop ⟨⟨(i+1,out.set i (IntKind.u32.wrap ((xs.getD i 0+xs.getD (i+1) 0*4294967296) / 2 ^ k))),by dsimp only;omega,dO.set (tX _),by simpa using ho,step _ rfl (by omega)⟩,zw,by dsimp only;omega⟩
 ·exact AW.stop ⟨⟨(i+1,out.set i (IntKind.u32.wrap (xs.getD i 0 / 2 ^ k))),by dsimp only;omega,dO.set (tX _),by simpa using ho,step _ (by rw[u4 (by omega)];simp) (by omega)⟩,zw,by dsimp only;omega⟩
 ·rw[← fin (by omega)]
end Go.Proofs.Vx
namespace Go.Proofs.Vx
open Go Go.Sx Go.Proofs Tryz
attribute [local irreducible] fnT CallOK CallFr AW aI callV aL aJ aH aK gcaseP hid
theorem c258 (A V C ds : List Int) (q : Int) (m : Nat) (hV : V.length = ds.length + 1) (hm : m = A.length + (V.length + C.length)) (hn : m < 1099511627776) (dV : Dig V) (dd : Dig ds) (hq : 0 ≤ q ∧ q < 4294967296) (hqv : (q - 1) * wz ds ≤ wz V) :
  CallOK prog 258 [.ref 0 A.length V.length m,.sl (aG .u32 ds),.lit (.int .u32 q)] [(0,.vec 1 (aG .u32 (A++(V++C))))] (.lit (.bool (decide (wz V<q*wz ds))))
   [(0,.vec 1 (aG .u32 (A++(dgp V.length (if q*wz ds≤wz V then wz V - q*wz ds else wz V - (q - 1)*wz ds).toNat++C))))]:=by
 refine fC func258 rfl 93 rfl rfl (by simp) (.lit _) (by simp only[List.mem_singleton,forall_eq];exact⟨by simp,kY _ _⟩) [.tmp 6] (congrArg Al results258) ?_
 simp only[aD,Ab]
 repeat'(first|refine zk ?_|(refine zu ?_ ?_<;>intro hc)|(refine zv ?_ ?_<;>intro hg)|omega|simp -dsimp (disch:=try exact zo)only[go_sem,jX,mY]|contradiction|rfl)
 refine AW.loop (fun z:{p:Nat × List Int × Int × Int // p.1≤ds.length∧Dig p.2.1∧p.2.1.length=V.length∧(0≤p.2.2.1∧p.2.2.1<4294967296)∧(0≤p.2.2.2∧p.2.2.2≤1)∧(∀ j,p.1≤j→p.2.1.getD j 0=V.getD j 0)∧wz (p.2.1.take p.1)=wz (V.take p.1) - q*wz (ds.take p.1)+4294967296 ^ p.1*(p.2.2.1+p.2.2.2)}=>⟨[(17,.lit (.int .i64 z.1.1)),(16,.lit (.int .i64 ds.length)),(15,.sl (aG .u32 ds)),(8,.lit (.int .u32 z.1.2.2.2)),(7,.lit (.int .u64 z.1.2.2.1)),(0,.ref 0 A.length V.length m),(1,.sl (aG .u32 ds)),(2,.lit (.int .u32 q))],[(0,.vec 1 (aG .u32 (A++(z.1.2.1++C))))],14⟩) (fun z=>ds.length - z.1.1) ⟨(0,V,0,0),Ae _,dV,rfl,⟨Ai 0,by simp⟩,⟨Ai 0,by simp⟩,fun _ _=>rfl,by simp[wz]⟩ zw ?_
 rintro⟨⟨i,W,c,b⟩,hi,dW,hW,hc1,hb1,hsame,hv⟩
 dsimp only at hi dW hW hc1 hb1 hsame hv ⊢
 have dwi:=dW.getD i
 have ddi:=dd.getD i
 have hpr:0≤ds.getD i 0*q∧ds.getD i 0*q≤18446744065119617025:=by
  have h1:=At ddi.1 hq.1
  have h2:=Au (show ds.getD i 0≤4294967295 by omega) (show q≤4294967295 by omega) hq.1 (by decide)
  omega
 have hwr:=tX (ds.getD i 0*q+c)
 have dwn:=dW.getD ds.length
 have step : i < ds.length → ∀ u b' c', u = (W.getD i 0 - IntKind.u32.wrap (ds.getD i 0 * q + c) - b) % 4294967296 → b' = (if W.getD i 0 < IntKind.u32.wrap (ds.getD i 0 * q + c) + b then (1 : Int) else 0) → c' = (ds.getD i 0 * q + c) / 4294967296 →
   (0≤u∧u<4294967296)∧(0≤b'∧b'≤1)∧(0≤c'∧c'<4294967296)∧wz ((W.set i u).take (i+1))=wz (V.take (i+1)) - q*wz (ds.take (i+1))+4294967296 ^ (i+1)*(c'+b'):=by
  intro hlt u b' c' hu hb' hc'
  have e1:u=W.getD i 0 - IntKind.u32.wrap (ds.getD i 0*q+c) - b+4294967296*b':=by rw[hu,hb'];split<;>omega
  have e2:=Aa (ds.getD i 0*q+c) 4294967296
  refine⟨by omega,by rw[hb'];split<;>omega,by omega,?_⟩
  rw[jQ (by omega),hv,cN V,cN ds,Ad,e1,hsame i (Ac _),iD,hc']
  grind
 have fin : ds.length ≤ i → ∀ u b', u = (W.getD ds.length 0 - c - b) % 4294967296 → b' = (if W.getD ds.length 0 < c + b then (1 : Int) else 0) →
   Dig (W.set ds.length u)∧(0≤b'∧b'≤1)∧wz (W.set ds.length u)=wz V - q*wz ds+4294967296 ^ V.length*b':=by
  intro hge u b' hu hb'
  obtain rfl:i=ds.length:=by omega
  have e1:u=W.getD ds.length 0 - c - b+4294967296*b':=by rw[hu,hb'];split<;>omega
  refine⟨dW.set (by omega),by rw[hb'];split<;>omega,?_⟩
  have e2:=jQ (xs:=W) (i:=ds.length) (by omega) u
  rw[dF (xs:=W.set ds.length u) (by simp;omega)]at e2
  have e3:=cN V ds.length
  rw[dF (by omega)]at e3
  rw[dF (Ac _)]at hv
  rw[e2,hv,e3,hV,Ad,e1,hsame _ (Ac _)]
  grind
 have hvB:=jL dV
 have hd0:=dT dd
 repeat'(first|refine zk ?_|(refine zu ?_ ?_<;>intro hc)|(refine AW.ret (bW ?_ ?_)<;>simp -dsimp (disch:=try exact zo)only[go_sem,jX,mY])|(refine zf (c196 _ _ _ (by omega) (by omega) (by omega)) ?_)|(refine zf (c194 _ _ _ (by omega) (by omega) (by omega)) ?_)|(refine zv ?_ ?_<;>intro hg)|omega|simp -dsimp (disch:=try exact zo)only[go_sem,jX,mY]|contradiction|rfl)
 ·obtain⟨s1,s2,s3,s4⟩:=step (by omega) _ _ _ rfl rfl rfl
  exact AW.stop ⟨⟨(i+1,W.set i ((W.getD i 0 - IntKind.u32.wrap (ds.getD i 0*q+c) - b) % 4294967296),(ds.getD i 0*q+c) / 4294967296,if W.getD i 0<IntKind.u32.wrap (ds.getD i 0*q+c)+b then 1 else 0),by dsimp only;omega,dW.set s1,by simpa using hW,s3,s2,fun j hj=>by dsimp only at hj ⊢;rw[vB (by omega)];exact hsame j (by omega),s4⟩,zw,by dsimp only;omega⟩
 ·obtain⟨f1,f2,f3⟩:=fin (by omega) _ _ rfl rfl
  rw[hc,Ao]at f3
  have f4:=dT f1
  have f5:¬ wz V<q*wz ds:=by omega
  simp only[f5,decide_false]
 ·obtain⟨f1,f2,f3⟩:=fin (by omega) _ _ rfl rfl
  rw[hc,Ao]at f3
  have f4:=dT f1
  rw[if_pos (by omega),← qT f1 (by simpa using hW) (by omega)]
 ·obtain⟨f1,f2,f3⟩:=fin (by omega) _ _ rfl rfl
  have hb1:(if W.getD ds.length 0<c+b then (1:Int)else 0)=1:=by omega
  rw[hb1,Int.mul_one]at f3
  have hY:(W.set ds.length ((W.getD ds.length 0 - c - b) % 4294967296)).length=V.length:=by simpa using hW
  generalize W.set ds.length ((W.getD ds.length 0 - c - b) % 4294967296)=Y at *
  have f4:=jL f1
  rw[hY]at f4
  have f5:wz V<q*wz ds:=by omega
  have f6:(q - 1)*wz ds=q*wz ds - wz ds:=by grind
  simp only[f5,decide_true,show ¬ q*wz ds≤wz V by omega,if_false]
  clear hv hsame step fin hpr hwr
  refine AW.loop (fun z:{p:Nat × List Int × Int // p.1≤ds.length∧Dig p.2.1∧p.2.1.length=V.length∧(0≤p.2.2∧p.2.2≤1)∧(∀ j,p.1≤j→p.2.1.getD j 0=Y.getD j 0)∧wz (p.2.1.take p.1)+4294967296 ^ p.1*p.2.2=wz (Y.take p.1)+wz (ds.take p.1)}=>⟨[(66,.lit (.int .i64 z.1.1)),(65,.lit (.int .i64 ds.length)),(64,.sl (aG .u32 ds)),(12,.lit (.int .u32 z.1.2.2)),(0,.ref 0 A.length V.length m),(1,.sl (aG .u32 ds))],[(0,.vec 1 (aG .u32 (A++(z.1.2.1++C))))],39⟩) (fun z=>ds.length - z.1.1) ⟨(0,Y,0),Ae _,f1,hY,⟨Ai 0,by simp⟩,fun _ _=>rfl,by simp[wz]⟩ zw ?_
  rintro⟨⟨i,Z,c⟩,hi,dZ,hZ,hc1,hsame,hv⟩
  dsimp only at hi dZ hZ hc1 hsame hv ⊢
  have dzi:=dZ.getD i
  have ddi:=dd.getD i
  have dzn:=dZ.getD ds.length
  have step:i<ds.length→∀ u c',u=(Z.getD i 0+ds.getD i 0+c) % 4294967296→c'=(Z.getD i 0+ds.getD i 0+c) / 4294967296→(0≤u∧u<4294967296)∧(0≤c'∧c'≤1)∧wz ((Z.set i u).take (i+1))+4294967296 ^ (i+1)*c'=wz (Y.take (i+1))+wz (ds.take (i+1)):=by
   intro hlt u c' hu hc'
   have e2:=Aa (Z.getD i 0+ds.getD i 0+c) 4294967296
   refine⟨by omega,by omega,?_⟩
   rw[jQ (by omega),cN Y,cN ds,Ad,hu,hc',← hsame i (Ac _)]
   grind
  have fin:ds.length≤i→∀ u,u=IntKind.u32.wrap (Z.getD ds.length 0+c)→Z.set ds.length u=dgp V.length (wz V - (q - 1)*wz ds).toNat:=by
   intro hge u hu
   obtain rfl:i=ds.length:=by omega
   have e2:=jQ (xs:=Z) (i:=ds.length) (by omega) u
   rw[dF (xs:=Z.set ds.length u) (by simp;omega)]at e2
   have e3:=cN Y ds.length
   rw[dF (by omega),← hsame _ (Ac _)]at e3
   rw[dF (Ac _)]at hv
   have hlt:=jL (dZ.take ds.length)
   have hl:(Z.take ds.length).length=ds.length:=by simp;omega
   rw[hl]at hlt
   have hnn:=dT (dZ.take ds.length)
   rw[hV,Ad]at f3
   have hp:(0:Int)<4294967296 ^ ds.length:=Ap (by decide)
   have htot:wz (Z.take ds.length)+4294967296 ^ ds.length*(Z.getD ds.length 0+c)=wz V - (q - 1)*wz ds+4294967296 ^ ds.length*4294967296:=by grind
   have ht:Z.getD ds.length 0+c=4294967296:=by
    have h1:¬ Z.getD ds.length 0+c≤4294967295:=by
     intro hle
     have:=Int.mul_le_mul_of_nonneg_left hle (Int.le_of_lt hp)
     grind
    omega
   have hu0:u=0:=by rw[hu,ht];decide
   apply qT (dZ.set (by omega)) (by simpa using hZ)
   rw[e2,hu0]
   rw[ht]at htot
   omega
  repeat'(first|refine zk ?_|(refine zu ?_ ?_<;>intro hc)|(refine AW.ret (bW ?_ ?_)<;>simp -dsimp (disch:=try exact zo)only[go_sem,jX,mY])|(refine zf (c196 _ _ _ (by omega) (by omega) (by omega)) ?_)|(refine zf (c194 _ _ _ (by omega) (by omega) (by omega)) ?_)|(refine zv ?_ ?_<;>intro hg)|omega|simp -dsimp (disch:=try exact zo)only[go_sem,jX,mY]|contradiction|rfl)
  ·obtain⟨s1,s2,s3⟩:=step (by omega) _ _ rfl rfl
   exact AW.stop ⟨⟨(i+1,Z.set i ((Z.getD i 0+ds.getD i 0+c) % 4294967296),(Z.getD i 0+ds.getD i 0+c) / 4294967296),by dsimp only;omega,dZ.set s1,by simpa using hZ,s2,fun j hj=>by dsimp only at hj ⊢;rw[vB (by omega)];exact hsame j (by omega),s3⟩,zw,by dsimp only;omega⟩
  ·rw[fin (by omega) _ rfl]
end Go.Proofs.Vx
