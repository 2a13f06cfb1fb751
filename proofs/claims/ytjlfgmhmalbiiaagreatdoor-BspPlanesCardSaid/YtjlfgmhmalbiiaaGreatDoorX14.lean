import Derived.Test.YtjlfgmhmalbiiaaGreatDoorX13
set_option linter.all false
set_option maxHeartbeats 3200000
open Array renaming toList → An
open Int renaming mul_ediv_add_emod → Aa, pow_succ → Ae, le_refl → Ai, fdiv_eq_ediv_of_nonneg → Ak, ediv_lt_iff_lt_mul → Am, emod_lt_of_pos → Ap, zero_le_ofNat → Aq, mul_zero → Ar, pow_pos → As, ediv_nonneg → At, emod_nonneg → Au, mul_nonneg → Av, mul_le_mul → Aw, add_comm → Az
open List renaming getD_eq_getElem?_getD → Ad, getElem?_eq_none → Ag, replicate → Ah, length_replicate → Aj, take_of_length_le → Al, length_set → Ao, drop_zero → Ax
open Nat renaming reduceAdd → Ab, le_refl → Ac, zero_le → Af, le_of_eq → Ay
namespace Go.Proofs.Vx
open Go Go.Sx Go.Proofs Tryz
attribute [local irreducible] fnT CallOK CallFr AW aK callV aL aJ aI aM gcaseP hid
theorem i9:fnT prog 193=true:=by kernel_rfl
theorem nG (m:ByteArray):(lmN (nv m)).length≤(m.size+3) / 4:=by rw[vZ];have:=eA m;omega
theorem a3q {xs:List Int} {n:Nat} (h:xs.length≤n):xs.take n=xs:=Al h
theorem mQ (a b:ByteArray) (ha:a.size<274877906944) (hb:b.size<274877906944):CallOK prog 147 [.lit (.string a),.lit (.string b)] [] (.lit (.string (nb (nv a+nv b)))) []:=by
 refine zs func147 60 [.tmp 4] results147 ?_
 simp only[aD,Ab]
 have la:=nG a
 have lb:=nG b
 have da:=l4 (nv a)
 have db:=l4 (nv b)
 have wa:=l6 (nv a)
 have wb:=l6 (nv b)
 repeat'(first|refine zg ?_|refine zr ?_|(first|refine dT (.sl (aH .u32 (lmN (nv a)))) i9 (jP a (by omega)) (by simp -dsimp (disch:=try exact zo)only[go_sem]) (by rw[iI,jT];trivial) ?_|refine dT (.sl (aH .u32 (lmN (nv b)))) i9 (jP b (by omega)) (by simp -dsimp (disch:=try exact zo)only[go_sem]) (by rw[iI,jT];trivial) ?_)|refine⟨by omega,?_⟩|(refine zb ?_ ?_<;>intro hg<;>(try rw[hg])<;>try simp only[NM]at hg)|omega|simp -dsimp (disch:=try exact zo)only[go_sem]|contradiction|rfl)
 generalize lmN (nv a)=X at *
 generalize lmN (nv b)=Y at *
 refine b0m (fun z:{p:List Int × List Int // p.2.length≤p.1.length∧p.1.length<274877906944∧Dig p.1∧Dig p.2∧wz p.1+wz p.2=nv a+nv b}=>⟨[(5,.sl (aH .u32 z.1.1)),(6,.sl (aH .u32 z.1.2))],[],20⟩) ?_ ?_
 ·repeat'(first|refine zk ?_|(refine zu ?_ ?_<;>intro hc)|(refine zv ?_ ?_<;>intro hg)|omega|simp -dsimp (disch:=try exact zo)only[go_sem]|contradiction|rfl)
  ·exact AW.stop ⟨⟨(Y,X),by dsimp only;omega,by dsimp only;omega,db,da,by dsimp only;omega⟩,zw⟩
  ·exact AW.stop ⟨⟨(X,Y),by dsimp only;omega,by dsimp only;omega,da,db,by dsimp only;omega⟩,zw⟩
 clear la lb da db wa wb X Y
 rintro⟨⟨xs,ys⟩,hl,hn,dx,dy,hw⟩
 dsimp only at hl hn dx dy hw ⊢
 have eN:((xs.length:Int)+1).toNat=xs.length+1:=by omega
 repeat'(first|refine zk ?_|(refine zu ?_ ?_<;>intro hc)|(refine zv ?_ ?_<;>intro hg)|omega|simp -dsimp (disch:=try exact zo)only[go_sem,eN]|contradiction|rfl)
 refine AW.loop (fun z:{p:Nat × List Int × Int // p.1≤xs.length∧Dig p.2.1∧p.2.1.length=xs.length+1∧(0≤p.2.2∧p.2.2≤1)∧wz (p.2.1.take p.1)+4294967296 ^ p.1*p.2.2=wz (xs.take p.1)+wz (ys.take p.1)}=>⟨[(28,.lit (.int .i64 z.1.1)),(27,.lit (.int .i64 xs.length)),(26,.sl (aH .u32 xs)),(8,.lit (.int .u32 z.1.2.2)),(7,.ref 23 0 (xs.length+1) (xs.length+1)),(5,.sl (aH .u32 xs)),(6,.sl (aH .u32 ys))],[(23,.vec 1 (aH .u32 z.1.2.1))],29⟩) (fun z=>xs.length - z.1.1) ⟨(0,Ah (xs.length+1) 0,0),Af _,Dig.rep _,by simp,⟨Ai 0,Aq 1⟩,by simp[wz]⟩ zw ?_
 rintro⟨⟨i,out,c⟩,hi,dO,ho,hc1,hv⟩
 dsimp only at hi dO ho hc1 hv ⊢
 have dxi:=dx.getD i
 have dyi:=dy.getD i
 have step : i < xs.length → ∀ y, y = ys.getD i 0 → Dig (out.set i ((xs.getD i 0 + y + c) % 4294967296)) ∧ (0 ≤ (xs.getD i 0 + y + c) / 4294967296 ∧ (xs.getD i 0 + y + c) / 4294967296 ≤ 1) ∧
   wz ((out.set i ((xs.getD i 0+y+c) % 4294967296)).take (i+1))+4294967296 ^ (i+1)*((xs.getD i 0+y+c) / 4294967296)=wz (xs.take (i+1))+wz (ys.take (i+1)):=by
  rintro hlt y rfl
  refine⟨dO.set (by omega),by omega,?_⟩
  rw[j2 (by omega),cW,cW,Ae]
  have:=Aa (xs.getD i 0+ys.getD i 0+c) 4294967296
  grind
 have fin:xs.length≤i→Dig (out.set xs.length c)∧wv (out.set xs.length c)=nv a+nv b:=by
  intro hge
  obtain rfl:i=xs.length:=by omega
  have hd:Dig (out.set xs.length c):=dO.set (by omega)
  refine⟨hd,?_⟩
  have h1:=rS hd
  have h2:=j2 (xs:=out) (i:=xs.length) (by omega) c
  rw[Al (by simp;omega)]at h2
  rw[a3q (Ac _),a3q hl]at hv
  omega
 repeat'(first|refine zk ?_|(refine zu ?_ ?_<;>intro hc)|(refine zf (c194 _ _ _ (by omega) (by omega) (by omega)) ?_)|(refine iL (.lit (.string (nb (wv (out.set xs.length c))))) oF (pG (out.set xs.length c) (by simp;omega) (fin (by omega)).1) rfl (by simp only[bZ,Ao,Aj];omega) (by simp -dsimp (disch:=try exact zo)only[go_sem]) (.lit _) ?_)|(refine zv ?_ ?_<;>intro hg)|omega|simp -dsimp (disch:=try exact zo)only[go_sem]|contradiction|rfl)
 ·obtain⟨s1,s2,s3⟩:=step (by omega) _ rfl
  exact AW.stop ⟨⟨(i+1,out.set i ((xs.getD i 0+ys.getD i 0+c) % 4294967296),(xs.getD i 0+ys.getD i 0+c) / 4294967296),by dsimp only;omega,s1,by simpa using ho,s2,s3⟩,zw,by dsimp only;omega⟩
 ·obtain⟨s1,s2,s3⟩:=step (by omega) 0 (by rw[Ad,Ag (by omega)];rfl)
  exact AW.stop ⟨⟨(i+1,out.set i ((xs.getD i 0+0+c) % 4294967296),(xs.getD i 0+0+c) / 4294967296),by dsimp only;omega,s1,by simpa using ho,s2,s3⟩,zw,by dsimp only;omega⟩
 ·rw[(fin (by omega)).2]
end Go.Proofs.Vx
namespace Go.Proofs.Vx
open Go Go.Sx Go.Proofs Tryz
attribute [local irreducible] fnT CallOK CallFr AW aK callV aL aJ aI aM gcaseP hid
theorem c148 (a b:ByteArray) (ha:a.size<274877906944) (hb:b.size<274877906944):CallOK prog 148 [.lit (.string a),.lit (.string b)] [] (.tup [.lit (.string (if nv a<nv b then ⟨#[]⟩else nb (nv a - nv b))),.lit (.bool (decide (nv b≤nv a)))]) []:=by
 refine zs func148 52 [.tmp 4,.tmp 5] results148 ?_
 simp only[aD,Ab]
 have la:=nG a
 have lb:=nG b
 have da:=l4 (nv a)
 have db:=l4 (nv b)
 have wa:=l6 (nv a)
 have wb:=l6 (nv b)
 have lab:nv b≤nv a→(lmN (nv b)).length≤(lmN (nv a)).length:=a7k
 have hc:=@c8n (nv a) (nv b)
 repeat'(first|refine zk ?_|(refine zu ?_ ?_<;>intro hc)|(first|refine dT (.sl (aH .u32 (lmN (nv a)))) i9 (jP a (by omega)) (by simp -dsimp (disch:=try exact zo)only[go_sem]) (by rw[iI,jT];trivial) ?_|refine dT (.sl (aH .u32 (lmN (nv b)))) i9 (jP b (by omega)) (by simp -dsimp (disch:=try exact zo)only[go_sem]) (by rw[iI,jT];trivial) ?_)|(refine zf (c195 a b (by omega) (by omega)) ?_)|(refine zv ?_ ?_<;>intro hg)|omega|simp -dsimp (disch:=try exact zo)only[go_sem]|contradiction|rfl)
 ·have h:nv a<nv b:=by omega
  simp only[if_pos h,show ¬ nv b≤nv a by omega,decide_false]
 have h:¬ nv a<nv b:=by omega
 simp only[if_neg h,show nv b≤nv a by omega,decide_true]
 generalize lmN (nv a)=xs at *
 generalize lmN (nv b)=ys at *
 have hl:=lab (by omega)
 refine AW.loop (fun z:{p:Nat × List Int × Int // p.1≤xs.length∧Dig p.2.1∧p.2.1.length=xs.length∧(0≤p.2.2∧p.2.2≤1)∧wz (p.2.1.take p.1) - 4294967296 ^ p.1*p.2.2=wz (xs.take p.1) - wz (ys.take p.1)}=>⟨[(25,.lit (.int .i64 z.1.1)),(24,.lit (.int .i64 xs.length)),(23,.sl (aH .u32 xs)),(9,.lit (.int .u32 z.1.2.2)),(8,.ref 22 0 xs.length xs.length),(6,.sl (aH .u32 xs)),(7,.sl (aH .u32 ys))],[(22,.vec 1 (aH .u32 z.1.2.1))],30⟩) (fun z=>xs.length - z.1.1) ⟨(0,Ah xs.length 0,0),Af _,Dig.rep _,by simp,⟨Ai 0,Aq 1⟩,by simp[wz]⟩ zw ?_
 rintro⟨⟨i,out,c⟩,hi,dO,ho,hc1,hv⟩
 dsimp only at hi dO ho hc1 hv ⊢
 have dxi:=da.getD i
 have dyi:=db.getD i
 have step : i < xs.length → ∀ y, y = ys.getD i 0 → Dig (out.set i ((xs.getD i 0 - y - c) % 4294967296)) ∧ (0 ≤ (if xs.getD i 0 < y + c then (1 : Int) else 0) ∧ (if xs.getD i 0 < y + c then (1 : Int) else 0) ≤ 1) ∧
   wz ((out.set i ((xs.getD i 0 - y - c) % 4294967296)).take (i+1)) - 4294967296 ^ (i+1)*(if xs.getD i 0<y+c then (1:Int)else 0)=wz (xs.take (i+1)) - wz (ys.take (i+1)):=by
  rintro hlt y rfl
  refine⟨dO.set (by omega),by split<;>omega,?_⟩
  rw[j2 (by omega),cW,cW,Ae]
  have:(xs.getD i 0 - ys.getD i 0 - c) % 4294967296=xs.getD i 0 - ys.getD i 0 - c+4294967296*(if xs.getD i 0<ys.getD i 0+c then (1:Int)else 0):=by split<;>omega
  rw[this]
  generalize (if xs.getD i 0<ys.getD i 0+c then (1:Int)else 0)=d
  grind
 have fin:xs.length≤i→wv out=nv a - nv b:=by
  intro hge
  obtain rfl:i=xs.length:=by omega
  have h1:=rS dO
  rw[dL (Ay ho),dL (Ac _),dL hl]at hv
  have h2:=jX dO
  rw[ho]at h2
  have h3:=eC dO
  have hp:(0:Int)<4294967296 ^ xs.length:=As (by decide)
  rcases (show c=0∨c=1 by omega)with rfl|rfl
  ·omega
  ·omega
 repeat'(first|refine zk ?_|(refine zu ?_ ?_<;>intro hc)|(refine zf (c196 _ _ _ (by omega) (by omega) (by omega)) ?_)|(refine iL (.lit (.string (nb (wv out)))) oF (pG out (by omega) dO) rfl (by simp only[bZ,Ao,Aj];omega) (by simp -dsimp (disch:=try exact zo)only[go_sem]) (.lit _) ?_)|(refine zv ?_ ?_<;>intro hg)|omega|simp -dsimp (disch:=try exact zo)only[go_sem]|contradiction|rfl)
 ·obtain⟨s1,s2,s3⟩:=step (by omega) _ rfl
  exact AW.stop ⟨⟨(i+1,out.set i ((xs.getD i 0 - ys.getD i 0 - c) % 4294967296),if xs.getD i 0<ys.getD i 0+c then 1 else 0),by dsimp only;omega,s1,by simpa using ho,s2,s3⟩,zw,by dsimp only;omega⟩
 ·obtain⟨s1,s2,s3⟩:=step (by omega) 0 (by rw[Ad,Ag (by omega)];rfl)
  exact AW.stop ⟨⟨(i+1,out.set i ((xs.getD i 0 - 0 - c) % 4294967296),if xs.getD i 0<0+c then 1 else 0),by dsimp only;omega,s1,by simpa using ho,s2,s3⟩,zw,by dsimp only;omega⟩
 ·rw[fin (by omega)]
end Go.Proofs.Vx
namespace Go.Proofs.Vx
open Go Go.Sx Go.Proofs Tryz
attribute [local irreducible] fnT CallOK CallFr AW aK callV aL aJ aI aM gcaseP hid
theorem c149 (a b:ByteArray) (ha:a.size<274877906944) (hb:b.size<274877906944):CallOK prog 149 [.lit (.string a),.lit (.string b)] [] (.lit (.string (nb (nv a*nv b)))) []:=by
 refine zs func149 74 [.tmp 4] results149 ?_
 simp only[aD,Ab]
 have la:=nG a
 have lb:=nG b
 have da:=l4 (nv a)
 have db:=l4 (nv b)
 have wa:=l6 (nv a)
 have wb:=l6 (nv b)
 repeat'(first|refine zk ?_|(refine zu ?_ ?_<;>intro hc)|(first|refine dT (.sl (aH .u32 (lmN (nv a)))) i9 (jP a (by omega)) (by simp -dsimp (disch:=try exact zo)only[go_sem]) (by rw[iI,jT];trivial) ?_|refine dT (.sl (aH .u32 (lmN (nv b)))) i9 (jP b (by omega)) (by simp -dsimp (disch:=try exact zo)only[go_sem]) (by rw[iI,jT];trivial) ?_)|(refine zv ?_ ?_<;>intro hg)|omega|simp -dsimp (disch:=try exact zo)only[go_sem]|contradiction|rfl)
 generalize lmN (nv a)=xs at *
 generalize lmN (nv b)=ys at *
 have eN:((xs.length:Int)+ys.length).toNat=xs.length+ys.length:=by omega
 rw[eN]
 generalize hN:xs.length+ys.length=N at *
 refine AW.loop (fun z:{p:Nat × List Int // p.1≤xs.length∧Dig p.2∧p.2.length=N∧wz p.2=wz (xs.take p.1)*wz ys∧∀ j,p.1+ys.length≤j→p.2.getD j 0=0}=>⟨[(24,.lit (.int .i64 z.1.1)),(23,.lit (.int .i64 xs.length)),(22,.sl (aH .u32 xs)),(7,.ref 20 0 N N),(5,.sl (aH .u32 xs)),(6,.sl (aH .u32 ys))],[(20,.vec 1 (aH .u32 z.1.2))],25⟩) (fun z=>xs.length - z.1.1) ⟨(0,Ah N 0),Af _,Dig.rep _,by simp,by simp[wz,b0t],fun j _=>a7r _ _⟩ zw ?_
 rintro⟨⟨i,out⟩,hi,dO,ho,hv,hz⟩
 dsimp only at hi dO ho hv hz ⊢
 have dxi:=da.getD i
 have fin:xs.length≤i→wv out=nv a*nv b:=by
  intro hge
  have h1:=rS dO
  rw[dL hge]at hv
  rw[wa,wb]at hv
  have:((nv a*nv b:Nat):Int)=(nv a:Int)*nv b:=by norm_cast
  omega
 repeat'(first|refine zk ?_|(refine zu ?_ ?_<;>intro hc)|(refine iL (.lit (.string (nb (wv out)))) oF (pG out (by omega) dO) rfl (by simp only[bZ,Ao,Aj];omega) (by simp -dsimp (disch:=try exact zo)only[go_sem]) (.lit _) ?_)|(refine zv ?_ ?_<;>intro hg)|omega|simp -dsimp (disch:=try exact zo)only[go_sem]|contradiction|rfl)
 ·have hi':i<xs.length:=by omega
  refine AW.loop (fun z:{p:Nat × List Int × Int // p.1≤ys.length∧Dig p.2.1∧p.2.1.length=N∧(0≤p.2.2∧p.2.2<4294967296)∧wz p.2.1+4294967296 ^ (i+p.1)*p.2.2=wz out+xs.getD i 0*4294967296 ^ i*wz (ys.take p.1)∧∀ j,i+ys.length≤j→p.2.1.getD j 0=0}=>⟨[(29,.lit (.int .i64 z.1.1)),(28,.lit (.int .i64 ys.length)),(27,.sl (aH .u32 ys)),(9,.lit (.int .u64 z.1.2.2)),(8,.lit (.int .i64 i)),(24,.lit (.int .i64 i)),(23,.lit (.int .i64 xs.length)),(22,.sl (aH .u32 xs)),(7,.ref 20 0 N N),(5,.sl (aH .u32 xs)),(6,.sl (aH .u32 ys))],[(20,.vec 1 (aH .u32 z.1.2.1))],32⟩) (fun z=>ys.length - z.1.1) ⟨(0,out,0),Af _,dO,ho,⟨Ai 0,by simp⟩,by simp[wz],hz⟩ zw ?_
  rintro⟨⟨k,o2,c⟩,hk,dP,hp,hc1,hw,hy⟩
  dsimp only at hk dP hp hc1 hw hy ⊢
  have dyk:=db.getD k
  have dok:=dP.getD (i+k)
  have eik:((i:Int)+k).toNat=i+k:=by omega
  have ein:((i:Int)+ys.length).toNat=i+ys.length:=by omega
  have hpr:0≤xs.getD i 0*ys.getD k 0∧xs.getD i 0*ys.getD k 0≤18446744065119617025:=by
   have h1:=Av dxi.1 dyk.1
   have h2:=Aw (show xs.getD i 0≤4294967295 by omega) (show ys.getD k 0≤4294967295 by omega) dyk.1 (by decide)
   omega
  have step:k<ys.length→wz (o2.set (i+k) (IntKind.u32.wrap (xs.getD i 0*ys.getD k 0+o2.getD (i+k) 0+c)))+4294967296 ^ (i+(k+1))*((xs.getD i 0*ys.getD k 0+o2.getD (i+k) 0+c) / 4294967296)=wz out+xs.getD i 0*4294967296 ^ i*wz (ys.take (k+1)):=by
   intro hlt
   rw[b0s (by omega),cW,iP,← Nat.add_assoc,Ae]
   have:=Aa (xs.getD i 0*ys.getD k 0+o2.getD (i+k) 0+c) 4294967296
   have hpw:(4294967296:Int) ^ (i+k)=4294967296 ^ i*4294967296 ^ k:=Int.pow_add _ _ _
   grind
  have fin2:ys.length≤k→wz (o2.set (i+ys.length) c)=wz (xs.take (i+1))*wz ys:=by
   intro hge
   rw[b0s (by omega),hy _ (Ac _),cW]
   obtain rfl:k=ys.length:=by omega
   rw[dL (Ac _)]at hw
   grind
  repeat'(first|refine zk ?_|(refine zu ?_ ?_<;>intro hc)|(refine zv ?_ ?_<;>intro hg)|omega|simp -dsimp (disch:=try exact zo)only[go_sem,eik,ein]|contradiction|rfl)
  ·exact AW.stop ⟨⟨(k+1,o2.set (i+k) (IntKind.u32.wrap (xs.getD i 0*ys.getD k 0+o2.getD (i+k) 0+c)),(xs.getD i 0*ys.getD k 0+o2.getD (i+k) 0+c) / 4294967296),by dsimp only;omega,dP.set (uN _),by simpa using hp,by dsimp only;omega,step (by omega),fun j hj=>by dsimp only;rw[vP (by omega)];exact hy j hj⟩,zw,by dsimp only;omega⟩
  ·exact AW.stop ⟨⟨(i+1,o2.set (i+ys.length) c),by dsimp only;omega,dP.set hc1,by simpa using hp,fin2 (by omega),fun j hj=>by dsimp only at hj ⊢;rw[vP (by omega)];exact hy j (by omega)⟩,zw,by dsimp only;omega⟩
 ·rw[fin (by omega)]
end Go.Proofs.Vx
namespace Go.Proofs.Vx
open Go Go.Sx Go.Proofs Tryz
attribute [local irreducible] fnT CallOK CallFr AW aK callV aL aJ aI aM gcaseP hid
theorem c4z:kiT prog 3=some .i64∧bI prog 3=false:=by and_intros<;>kernel_rfl
attribute [go_sem] c4z
theorem c255 (h l y:Int) (hh:0≤h∧h<y) (hl:0≤l∧l<4294967296) (hy:y<4294967296):CallOK prog 255 [.lit (.int .u32 h),.lit (.int .u32 l),.lit (.int .u32 y)] [] (.tup [.lit (.int .u32 ((h*4294967296+l) / y)),.lit (.int .u32 ((h*4294967296+l) % y))]) []:=by
 refine zs func255 33 [.tmp 6,.tmp 7] results255 ?_
 simp only[aD,Ab]
 have hor:IntKind.u64.wrap ((BitVec.ofInt IntKind.u64.bits (h*4294967296) ||| BitVec.ofInt IntKind.u64.bits l).toNat:Int)=h*4294967296+l:=by
  have e:(2:Int) ^ 32=4294967296:=by decide
  have e64:(2:Int) ^ IntKind.u64.bits=18446744073709551616:=by decide
  rw[BitVec.or_comm,uR (a:=l) (b:=h*4294967296) (j:=32) (by omega) (by omega) (by omega) (by omega) (by rw[e64];omega) rfl]
  omega
 have hq:0≤(h*4294967296+l) / y∧(h*4294967296+l) / y<4294967296:=by
  refine⟨At (by omega) (by omega),?_⟩
  rw[Am (by omega)]
  omega
 have hr1:=Au (h*4294967296+l) (show y≠0 by omega)
 have hr2:=Ap (h*4294967296+l) (show 0<y by omega)
 have hy0:(y=0)=False:=by simp;omega
 have hyh:(y≤h)=False:=by simp;omega
 exact z1
theorem c6b:((([0,1,2,2,3,3,3,3,4,4,4,4,4,4,4,4,5,5,5,5,5,5,5,5,5,5,5,5,5,5,5,5,6,6,6,6,6,6,6,6,6,6,6,6,6,6,6,6,6,6,6,6,6,6,6,6,6,6,6,6,6,6,6,6]:List UInt8).append [7,7,7,7,7,7,7,7,7,7,7,7,7,7,7,7,7,7,7,7,7,7,7,7,7,7,7,7,7,7,7,7,7,7,7,7,7,7,7,7,7,7,7,7,7,7,7,7,7,7,7,7,7,7,7,7,7,7,7,7,7,7,7,7]).append ([8,8,8,8,8,8,8,8,8,8,8,8,8,8,8,8,8,8,8,8,8,8,8,8,8,8,8,8,8,8,8,8,8,8,8,8,8,8,8,8,8,8,8,8,8,8,8,8,8,8,8,8,8,8,8,8,8,8,8,8,8,8,8,8].append [8,8,8,8,8,8,8,8,8,8,8,8,8,8,8,8,8,8,8,8,8,8,8,8,8,8,8,8,8,8,8,8,8,8,8,8,8,8,8,8,8,8,8,8,8,8,8,8,8,8,8,8,8,8,8,8,8,8,8,8,8,8,8,8])).length=256:=by kernel_rfl
theorem c9u:b2c ((([0,1,2,2,3,3,3,3,4,4,4,4,4,4,4,4,5,5,5,5,5,5,5,5,5,5,5,5,5,5,5,5,6,6,6,6,6,6,6,6,6,6,6,6,6,6,6,6,6,6,6,6,6,6,6,6,6,6,6,6,6,6,6,6]:List UInt8).append [7,7,7,7,7,7,7,7,7,7,7,7,7,7,7,7,7,7,7,7,7,7,7,7,7,7,7,7,7,7,7,7,7,7,7,7,7,7,7,7,7,7,7,7,7,7,7,7,7,7,7,7,7,7,7,7,7,7,7,7,7,7,7,7]).append ([8,8,8,8,8,8,8,8,8,8,8,8,8,8,8,8,8,8,8,8,8,8,8,8,8,8,8,8,8,8,8,8,8,8,8,8,8,8,8,8,8,8,8,8,8,8,8,8,8,8,8,8,8,8,8,8,8,8,8,8,8,8,8,8].append [8,8,8,8,8,8,8,8,8,8,8,8,8,8,8,8,8,8,8,8,8,8,8,8,8,8,8,8,8,8,8,8,8,8,8,8,8,8,8,8,8,8,8,8,8,8,8,8,8,8,8,8,8,8,8,8,8,8,8,8,8,8,8,8]))=true:=by kernel_rfl
theorem c9v (x:Int) (h:0≤x) (h2:x<256):bt ⟨((([0,1,2,2,3,3,3,3,4,4,4,4,4,4,4,4,5,5,5,5,5,5,5,5,5,5,5,5,5,5,5,5,6,6,6,6,6,6,6,6,6,6,6,6,6,6,6,6,6,6,6,6,6,6,6,6,6,6,6,6,6,6,6,6]:List UInt8).append [7,7,7,7,7,7,7,7,7,7,7,7,7,7,7,7,7,7,7,7,7,7,7,7,7,7,7,7,7,7,7,7,7,7,7,7,7,7,7,7,7,7,7,7,7,7,7,7,7,7,7,7,7,7,7,7,7,7,7,7,7,7,7,7]).append ([8,8,8,8,8,8,8,8,8,8,8,8,8,8,8,8,8,8,8,8,8,8,8,8,8,8,8,8,8,8,8,8,8,8,8,8,8,8,8,8,8,8,8,8,8,8,8,8,8,8,8,8,8,8,8,8,8,8,8,8,8,8,8,8].append [8,8,8,8,8,8,8,8,8,8,8,8,8,8,8,8,8,8,8,8,8,8,8,8,8,8,8,8,8,8,8,8,8,8,8,8,8,8,8,8,8,8,8,8,8,8,8,8,8,8,8,8,8,8,8,8,8,8,8,8,8,8,8,8])).toArray⟩ x.toNat=(bM x.toNat:Int):=c1e c9u (by omega)
theorem b7b (n:Int):n.fdiv (2 ^ min 16 32)=n / 65536:=by
 have e:(2:Int) ^ min 16 32=65536:=by decide
 rw[e,Ak _ (by decide)]
theorem c1j (n:Int):n.fdiv (2 ^ min 8 32)=n / 256:=by
 have e:(2:Int) ^ min 8 32=256:=by decide
 rw[e,Ak _ (by decide)]
theorem c205 (x:Int) (hx:0≤x∧x<4294967296):CallOK prog 205 [.lit (.int .u32 x)] [] (.lit (.int .i64 (bM x.toNat))) []:=by
 refine zs func205 19 [.tmp 2] results205 ?_
 simp only[aD,Ab]
 have b0:x<256→bM x.toNat≤8:=fun h=>oM (k:=8) (by omega)
 have b1:x<16777216→bM (x / 65536).toNat≤8:=fun h=>oM (k:=8) (by omega)
 have b2:x<65536→bM (x / 256).toNat≤8:=fun h=>oM (k:=8) (by omega)
 have b3:bM (x / 65536 / 256).toNat≤8:=oM (k:=8) (by omega)
 have s1:65536≤x→bM x.toNat=16+bM (x / 65536).toNat:=fun h=>by
  rw[zK x.toNat 16 (by omega)];congr 2;omega
 have s2:256≤x→bM x.toNat=8+bM (x / 256).toNat:=fun h=>by
  rw[zK x.toNat 8 (by omega)];congr 2;omega
 have s3:256≤x / 65536→bM (x / 65536).toNat=8+bM (x / 65536 / 256).toNat:=fun h=>by
  rw[zK (x / 65536).toNat 8 (by omega)];congr 2;omega
 repeat'(first|refine zk ?_|(refine zu ?_ ?_<;>intro hc)|(refine zv ?_ ?_<;>intro hg)|omega|simp -dsimp (disch:=try exact zo)only[go_sem,c6b,c9v,b7b,c1j]|contradiction|rfl)
 all_goals (congr 2;omega)
theorem c256 (x:Int) (hx:0≤x∧x<4294967296):CallOK prog 256 [.lit (.int .u32 x)] [] (.lit (.int .i64 (32 - (bM x.toNat:Int)))) []:=by
 refine zs func256 6 [.tmp 2] results256 ?_
 simp only[aD,Ab]
 have b0:bM x.toNat≤32:=oM (k:=32) (by omega)
 repeat'(first|refine zk ?_|(refine zu ?_ ?_<;>intro hc)|refine zf (c205 _ hx) ?_|(refine zv ?_ ?_<;>intro hg)|omega|simp -dsimp (disch:=try exact zo)only[go_sem]|contradiction|rfl)
end Go.Proofs.Vx
namespace Go.Proofs.Vx
open Go Go.Sx Go.Proofs Tryz
attribute [local irreducible] fnT CallOK CallFr AW aK callV aL aJ aI aM gcaseP hid
theorem c257 (xs:List Int) (k:Nat) (hk:k≤31) (hn:xs.length<1099511627776) (dx:Dig xs):CallFr prog 257 [.sl (aH .u32 xs),.lit (.int .i64 k)] 1 (aH .u32 (dgp (xs.length+1) (wz xs*2 ^ k).toNat)):=by
 refine CallFr.flat func257 rfl 41 rfl rfl (a6c _ _) [.tmp 4] (congrArg An results257) ?_
 simp only[aD,Ab]
 have hk64:min k 64=k:=by omega
 have eN:((xs.length:Int)+1).toNat=xs.length+1:=by omega
 repeat'(first|refine zk ?_|(refine zu ?_ ?_<;>intro hc)|(refine zv ?_ ?_<;>intro hg)|omega|simp -dsimp (disch:=try exact zo)only[go_sem,eN]|contradiction|rfl)
 refine AW.loop (fun z:{p:Nat × List Int // p.1≤xs.length∧Dig p.2∧p.2.length=xs.length+1∧(p.2.getD p.1 0<2 ^ k)∧wz (p.2.take (p.1+1))=wz (xs.take p.1)*2 ^ k}=>⟨[(15,.lit (.int .i64 z.1.1)),(14,.lit (.int .i64 xs.length)),(13,.sl (aH .u32 xs)),(1,.lit (.int .i64 k)),(5,.ref 12 0 (xs.length+1) (xs.length+1))],[(12,.vec 1 (aH .u32 z.1.2))],17⟩) (fun z=>xs.length - z.1.1) ⟨(0,Ah (xs.length+1) 0),Af _,Dig.rep _,by simp,by dsimp only;rw[a7r];exact As (by decide),by simp[wz,b0t]⟩ zw ?_
 rintro⟨⟨i,out⟩,hi,dO,ho,hd,hv⟩
 dsimp only at hi dO ho hd hv ⊢
 obtain⟨s1,s2,s3,s4,s5,s6,s7⟩:=b5j hk (dx.getD i) ⟨(dO.getD i).1,hd⟩
 obtain⟨p1,p2⟩:=tW hk
 have dxi:=dx.getD i
 have ei:((i:Int)+1).toNat=i+1:=by omega
 have step:i<xs.length→wz (((out.set i (out.getD i 0+xs.getD i 0*2 ^ k % 4294967296)).set (i+1) (xs.getD i 0*2 ^ k / 4294967296)).take (i+1+1))=wz (xs.take (i+1))*2 ^ k:=by
  intro hlt
  rw[j2 (by simp;omega),j2 (by omega),cW xs,Ae]
  rw[cW]at hv
  have:=Aa (xs.getD i 0*2 ^ k) 4294967296
  grind
 have fin:xs.length≤i→out=dgp (xs.length+1) (wz xs*2 ^ k).toNat:=by
  intro hge
  rw[dL (by omega),dL hge]at hv
  exact rI dO ho hv
 repeat'(first|refine zj ?_|(refine zu ?_ ?_<;>intro hc)|(refine AW.ret (qY ?_);simp -dsimp (disch:=try exact zo)only[go_sem,hk64,ei,s1]<;>try (refine⟨_,rfl,?_⟩;simp -dsimp (disch:=try exact zo)only[go_sem]))|(refine zv ?_ ?_<;>intro hg)|omega|simp -dsimp (disch:=try exact zo)only[go_sem,hk64,ei,s1]|contradiction)
 ·exact AW.stop ⟨⟨(i+1,(out.set i (out.getD i 0+xs.getD i 0*2 ^ k % 4294967296)).set (i+1) (xs.getD i 0*2 ^ k / 4294967296)),by dsimp only;omega,(dO.set ⟨s2,s3⟩).set ⟨s6,by omega⟩,by simpa using ho,by dsimp only;rw[a3j (by simp;omega)];exact s7,step (by omega)⟩,zw,by dsimp only;omega⟩
 ·rw[← fin (by omega)]
end Go.Proofs.Vx
namespace Go.Proofs.Vx
open Go Go.Sx Go.Proofs Tryz
attribute [local irreducible] fnT CallOK CallFr AW aK callV aL aJ aI aM gcaseP hid
theorem xR {K:Nat→Prop} {a b:AV} (h:In K a) (h':In K b):In K (.tup [a,b]):=.tup _ fun c hc=>by
 simp only[zM,or_false]at hc
 rcases hc with rfl|rfl<;>assumption
theorem fM {K:Nat→Prop} (k:IntKind) (xs:List Int):In K (.sl (aH k xs)):=by rw[iI,jT];trivial
theorem c239 (xs:List Int) (y:Int) (hy:0<y∧y<4294967296) (hn:xs.length<1099511627776) (dx:Dig xs):CallOK prog 239 [.sl (aH .u32 xs),.lit (.int .u32 y)] [] (.tup [.sl (aH .u32 (dgp xs.length (wz xs / y).toNat)),.lit (.int .u32 (wz xs % y))]) []:=by
 refine fF func239 rfl 39 rfl rfl (by exact xR (fM _ _) (.lit _)) [.tmp 4,.tmp 5] (congrArg An results239) ?_
 simp only[aD,Ab]
 repeat'(first|refine zk ?_|(refine zu ?_ ?_<;>intro hc)|(refine zv ?_ ?_<;>intro hg)|omega|simp -dsimp (disch:=try exact zo)only[go_sem]|contradiction|rfl)
 refine AW.loop (fun z:{p:Nat × List Int × Int // p.1≤xs.length∧Dig p.2.1∧p.2.1.length=xs.length∧(0≤p.2.2∧p.2.2<y)∧wz (p.2.1.drop (xs.length - p.1))*y+p.2.2=wz (xs.drop (xs.length - p.1))}=>⟨[(15,.lit (.int .i64 z.1.1)),(14,.lit (.int .i64 xs.length)),(0,.sl (aH .u32 xs)),(1,.lit (.int .u32 y)),(7,.lit (.int .u32 z.1.2.2)),(6,.ref 12 0 xs.length xs.length)],[(12,.vec 1 (aH .u32 z.1.2.1))],18⟩) (fun z=>xs.length - z.1.1) ⟨(0,Ah xs.length 0,0),Af _,Dig.rep _,by simp,⟨Ai 0,hy.1⟩,by simp[wz]⟩ zw ?_
 rintro⟨⟨i,out,r⟩,hi,dO,ho,hr,hv⟩
 dsimp only at hi dO ho hr hv ⊢
 have ek:i<xs.length→((xs.length:Int) - 1 - i).toNat=xs.length - 1 - i:=by omega
 have dxk:=dx.getD (xs.length - 1 - i)
 have hq1:0≤(r*4294967296+xs.getD (xs.length - 1 - i) 0) / y:=At (by omega) (by omega)
 have hq2:(r*4294967296+xs.getD (xs.length - 1 - i) 0) / y<4294967296:=by
  rw[Am (by omega)];omega
 have hr1:=Au (r*4294967296+xs.getD (xs.length - 1 - i) 0) (show y≠0 by omega)
 have hr2:=Ap (r*4294967296+xs.getD (xs.length - 1 - i) 0) (show 0<y by omega)
 have step:i<xs.length→wz ((out.set (xs.length - 1 - i) ((r*4294967296+xs.getD (xs.length - 1 - i) 0) / y)).drop (xs.length - (i+1)))*y+(r*4294967296+xs.getD (xs.length - 1 - i) 0) % y=wz (xs.drop (xs.length - (i+1))):=by
  intro hlt
  rw[show xs.length - (i+1)=xs.length - 1 - i by omega,a3p (by omega),a0y xs _ (by omega)]
  rw[show xs.length - i=xs.length - 1 - i+1 by omega]at hv
  have:=Aa (r*4294967296+xs.getD (xs.length - 1 - i) 0) y
  grind
 have fin:xs.length≤i→out=dgp xs.length (wz xs / y).toNat∧r=wz xs % y:=by
  intro hge
  rw[show xs.length - i=0 by omega,Ax,Ax]at hv
  have e1:wz xs / y=wz out:=by
   rw[← hv,Az,Int.add_mul_ediv_right _ _ (by omega),Int.ediv_eq_zero_of_lt hr.1 hr.2];omega
  have e2:wz xs % y=r:=by
   rw[← hv,Az,Int.add_mul_emod_self_right,Int.emod_eq_of_lt hr.1 hr.2]
  rw[e1,e2]
  exact⟨rI dO ho rfl,rfl⟩
 repeat'(first|refine zk ?_|(refine zu ?_ ?_<;>intro hc)|(refine zf (c255 _ _ _ (by omega) (by omega) (by omega)) ?_)|(refine zv ?_ ?_<;>intro hg)|omega|simp -dsimp (disch:=try exact zo)only[go_sem,ek,oL]|contradiction|rfl)
 ·exact AW.stop ⟨⟨(i+1,out.set (xs.length - 1 - i) ((r*4294967296+xs.getD (xs.length - 1 - i) 0) / y),(r*4294967296+xs.getD (xs.length - 1 - i) 0) % y),by dsimp only;omega,dO.set ⟨hq1,hq2⟩,by simpa using ho,⟨hr1,hr2⟩,step (by omega)⟩,zw,by dsimp only;omega⟩
 ·have h0:=oL (k:=.u32) ho
  simp only[ho,true_and]
  rw[h0,← (fin (by omega)).1,← (fin (by omega)).2]
theorem c259 (xs:List Int) (k:Nat) (hk:k≤31) (hn:xs.length<1099511627776) (dx:Dig xs):CallFr prog 259 [.sl (aH .u32 xs),.lit (.int .i64 k)] 1 (aH .u32 (dgp xs.length (wz xs / 2 ^ k).toNat)):=by
 refine CallFr.flat func259 rfl 44 rfl rfl (a6c _ _) [.tmp 4] (congrArg An results259) ?_
 simp only[aD,Ab]
 have hk64:min k 64=k:=by omega
 obtain⟨p1,p2⟩:=tW hk
 repeat'(first|refine zk ?_|(refine zu ?_ ?_<;>intro hc)|(refine zv ?_ ?_<;>intro hg)|omega|simp -dsimp (disch:=try exact zo)only[go_sem]|contradiction|rfl)
 refine AW.loop (fun z:{p:Nat × List Int // p.1≤xs.length∧Dig p.2∧p.2.length=xs.length∧wz (p.2.take p.1)*2 ^ k=wz (xs.take p.1) - xs.getD 0 0 % 2 ^ k+4294967296 ^ p.1*(xs.getD p.1 0 % 2 ^ k)}=>⟨[(13,.lit (.int .i64 z.1.1)),(12,.lit (.int .i64 xs.length)),(0,.sl (aH .u32 xs)),(1,.lit (.int .i64 k)),(5,.ref 11 0 xs.length xs.length)],[(11,.vec 1 (aH .u32 z.1.2))],16⟩) (fun z=>xs.length - z.1.1) ⟨(0,Ah xs.length 0),Af _,Dig.rep _,by simp,by simp[wz];omega⟩ zw ?_
 rintro⟨⟨i,out⟩,hi,dO,ho,hv⟩
 dsimp only at hi dO ho hv ⊢
 have dxi:=dx.getD i
 have dxj:=dx.getD (i+1)
 have ei:((i:Int)+1).toNat=i+1:=by omega
 have hor:=a2w dxi dxj
 obtain⟨u1,u2,u3⟩:=b3w hk dxi dxj
 have u4:xs.length≤i+1→xs.getD (i+1) 0=0:=fun h=>by rw[Ad,Ag h];rfl
 have step:∀ d,d=IntKind.u32.wrap ((xs.getD i 0+xs.getD (i+1) 0*4294967296) / 2 ^ k)→i<xs.length→wz ((out.set i d).take (i+1))*2 ^ k=wz (xs.take (i+1)) - xs.getD 0 0 % 2 ^ k+4294967296 ^ (i+1)*(xs.getD (i+1) 0 % 2 ^ k):=by
  rintro d rfl hlt
  rw[j2 (by omega),cW,Ae]
  grind
 have fin:xs.length≤i→out=dgp xs.length (wz xs / 2 ^ k).toNat:=by
  intro hge
  obtain rfl:i=xs.length:=by omega
  rw[dL (Ay ho),dL (Ac _),← c7f hk,Ad,Ag (Ac _)]at hv
  have h1:=Aa (wz xs) (2 ^ k)
  have h2:wz out=wz xs / 2 ^ k:=by
   apply Int.eq_of_mul_eq_mul_right (a:=2 ^ k) (by omega)
   rw[hv]
   simp only[Option.getD_none,Int.zero_emod,Ar]
   rw[Int.mul_comm (wz xs / 2 ^ k)]
   omega
  exact rI dO ho h2
 repeat'(first|refine zj ?_|(refine zu ?_ ?_<;>intro hc)|(refine AW.ret (qY ?_);simp -dsimp (disch:=try exact zo)only[go_sem,ei,hk64,a9z,hor]<;>try (refine⟨_,rfl,?_⟩;simp -dsimp (disch:=try exact zo)only[go_sem]))|(refine zv ?_ ?_<;>intro hg)|omega|simp -dsimp (disch:=try exact zo)only[go_sem,ei,hk64,a9z,hor]|contradiction)
 ·exact AW.stop ⟨⟨(i+1,out.set i (IntKind.u32.wrap ((xs.getD i 0+xs.getD (i+1) 0*4294967296) / 2 ^ k))),by dsimp only;omega,dO.set (uN _),by simpa using ho,step _ rfl (by omega)⟩,zw,by dsimp only;omega⟩
 ·exact AW.stop ⟨⟨(i+1,out.set i (IntKind.u32.wrap (xs.getD i 0 / 2 ^ k))),by dsimp only;omega,dO.set (uN _),by simpa using ho,step _ (by rw[u4 (by omega)];simp) (by omega)⟩,zw,by dsimp only;omega⟩
 ·rw[← fin (by omega)]
end Go.Proofs.Vx
namespace Go.Proofs.Vx
open Go Go.Sx Go.Proofs Tryz
attribute [local irreducible] fnT CallOK CallFr AW aK callV aL aJ aI aM gcaseP hid
theorem c258 (A V C ds : List Int) (q : Int) (m : Nat) (hV : V.length = ds.length + 1) (hm : m = A.length + (V.length + C.length)) (hn : m < 1099511627776) (dV : Dig V) (dd : Dig ds) (hq : 0 ≤ q ∧ q < 4294967296) (hqv : (q - 1) * wz ds ≤ wz V) :
  CallOK prog 258 [.ref 0 A.length V.length m,.sl (aH .u32 ds),.lit (.int .u32 q)] [(0,.vec 1 (aH .u32 (A++(V++C))))] (.lit (.bool (decide (wz V<q*wz ds))))
   [(0,.vec 1 (aH .u32 (A++(dgp V.length (if q*wz ds≤wz V then wz V - q*wz ds else wz V - (q - 1)*wz ds).toNat++C))))]:=by
 refine fL func258 rfl 93 rfl rfl (by simp) (.lit _) (by simp only[List.mem_singleton,forall_eq];exact⟨by simp,lR _ _⟩) [.tmp 6] (congrArg An results258) ?_
 simp only[aD,Ab]
 repeat'(first|refine zk ?_|(refine zu ?_ ?_<;>intro hc)|(refine zv ?_ ?_<;>intro hg)|omega|simp -dsimp (disch:=try exact zo)only[go_sem,j8,nE]|contradiction|rfl)
 refine AW.loop (fun z:{p:Nat × List Int × Int × Int // p.1≤ds.length∧Dig p.2.1∧p.2.1.length=V.length∧(0≤p.2.2.1∧p.2.2.1<4294967296)∧(0≤p.2.2.2∧p.2.2.2≤1)∧(∀ j,p.1≤j→p.2.1.getD j 0=V.getD j 0)∧wz (p.2.1.take p.1)=wz (V.take p.1) - q*wz (ds.take p.1)+4294967296 ^ p.1*(p.2.2.1+p.2.2.2)}=>⟨[(17,.lit (.int .i64 z.1.1)),(16,.lit (.int .i64 ds.length)),(15,.sl (aH .u32 ds)),(8,.lit (.int .u32 z.1.2.2.2)),(7,.lit (.int .u64 z.1.2.2.1)),(0,.ref 0 A.length V.length m),(1,.sl (aH .u32 ds)),(2,.lit (.int .u32 q))],[(0,.vec 1 (aH .u32 (A++(z.1.2.1++C))))],14⟩) (fun z=>ds.length - z.1.1) ⟨(0,V,0,0),Af _,dV,rfl,⟨Ai 0,by simp⟩,⟨Ai 0,by simp⟩,fun _ _=>rfl,by simp[wz]⟩ zw ?_
 rintro⟨⟨i,W,c,b⟩,hi,dW,hW,hc1,hb1,hsame,hv⟩
 dsimp only at hi dW hW hc1 hb1 hsame hv ⊢
 have dwi:=dW.getD i
 have ddi:=dd.getD i
 have hpr:0≤ds.getD i 0*q∧ds.getD i 0*q≤18446744065119617025:=by
  have h1:=Av ddi.1 hq.1
  have h2:=Aw (show ds.getD i 0≤4294967295 by omega) (show q≤4294967295 by omega) hq.1 (by decide)
  omega
 have hwr:=uN (ds.getD i 0*q+c)
 have dwn:=dW.getD ds.length
 have step : i < ds.length → ∀ u b' c', u = (W.getD i 0 - IntKind.u32.wrap (ds.getD i 0 * q + c) - b) % 4294967296 → b' = (if W.getD i 0 < IntKind.u32.wrap (ds.getD i 0 * q + c) + b then (1 : Int) else 0) → c' = (ds.getD i 0 * q + c) / 4294967296 →
   (0≤u∧u<4294967296)∧(0≤b'∧b'≤1)∧(0≤c'∧c'<4294967296)∧wz ((W.set i u).take (i+1))=wz (V.take (i+1)) - q*wz (ds.take (i+1))+4294967296 ^ (i+1)*(c'+b'):=by
  intro hlt u b' c' hu hb' hc'
  have e1:u=W.getD i 0 - IntKind.u32.wrap (ds.getD i 0*q+c) - b+4294967296*b':=by rw[hu,hb'];split<;>omega
  have e2:=Aa (ds.getD i 0*q+c) 4294967296
  refine⟨by omega,by rw[hb'];split<;>omega,by omega,?_⟩
  rw[j2 (by omega),hv,cW V,cW ds,Ae,e1,hsame i (Ac _),iP,hc']
  grind
 have fin : ds.length ≤ i → ∀ u b', u = (W.getD ds.length 0 - c - b) % 4294967296 → b' = (if W.getD ds.length 0 < c + b then (1 : Int) else 0) →
   Dig (W.set ds.length u)∧(0≤b'∧b'≤1)∧wz (W.set ds.length u)=wz V - q*wz ds+4294967296 ^ V.length*b':=by
  intro hge u b' hu hb'
  obtain rfl:i=ds.length:=by omega
  have e1:u=W.getD ds.length 0 - c - b+4294967296*b':=by rw[hu,hb'];split<;>omega
  refine⟨dW.set (by omega),by rw[hb'];split<;>omega,?_⟩
  have e2:=j2 (xs:=W) (i:=ds.length) (by omega) u
  rw[dL (xs:=W.set ds.length u) (by simp;omega)]at e2
  have e3:=cW V ds.length
  rw[dL (by omega)]at e3
  rw[dL (Ac _)]at hv
  rw[e2,hv,e3,hV,Ae,e1,hsame _ (Ac _)]
  grind
 have hvB:=jX dV
 have hd0:=eC dd
 repeat'(first|refine zk ?_|(refine zu ?_ ?_<;>intro hc)|(refine AW.ret (b9 ?_ ?_)<;>simp -dsimp (disch:=try exact zo)only[go_sem,j8,nE])|(refine zf (c196 _ _ _ (by omega) (by omega) (by omega)) ?_)|(refine zf (c194 _ _ _ (by omega) (by omega) (by omega)) ?_)|(refine zv ?_ ?_<;>intro hg)|omega|simp -dsimp (disch:=try exact zo)only[go_sem,j8,nE]|contradiction|rfl)
 ·obtain⟨s1,s2,s3,s4⟩:=step (by omega) _ _ _ rfl rfl rfl
  exact AW.stop ⟨⟨(i+1,W.set i ((W.getD i 0 - IntKind.u32.wrap (ds.getD i 0*q+c) - b) % 4294967296),(ds.getD i 0*q+c) / 4294967296,if W.getD i 0<IntKind.u32.wrap (ds.getD i 0*q+c)+b then 1 else 0),by dsimp only;omega,dW.set s1,by simpa using hW,s3,s2,fun j hj=>by dsimp only at hj ⊢;rw[vP (by omega)];exact hsame j (by omega),s4⟩,zw,by dsimp only;omega⟩
 ·obtain⟨f1,f2,f3⟩:=fin (by omega) _ _ rfl rfl
  rw[hc,Ar]at f3
  have f4:=eC f1
  have f5:¬ wz V<q*wz ds:=by omega
  simp only[f5,decide_false]
 ·obtain⟨f1,f2,f3⟩:=fin (by omega) _ _ rfl rfl
  rw[hc,Ar]at f3
  have f4:=eC f1
  rw[if_pos (by omega),← rI f1 (by simpa using hW) (by omega)]
 ·obtain⟨f1,f2,f3⟩:=fin (by omega) _ _ rfl rfl
  have hb1:(if W.getD ds.length 0<c+b then (1:Int)else 0)=1:=by omega
  rw[hb1,Int.mul_one]at f3
  have hY:(W.set ds.length ((W.getD ds.length 0 - c - b) % 4294967296)).length=V.length:=by simpa using hW
  generalize W.set ds.length ((W.getD ds.length 0 - c - b) % 4294967296)=Y at *
  have f4:=jX f1
  rw[hY]at f4
  have f5:wz V<q*wz ds:=by omega
  have f6:(q - 1)*wz ds=q*wz ds - wz ds:=by grind
  simp only[f5,decide_true,show ¬ q*wz ds≤wz V by omega,if_false]
  clear hv hsame step fin hpr hwr
  refine AW.loop (fun z:{p:Nat × List Int × Int // p.1≤ds.length∧Dig p.2.1∧p.2.1.length=V.length∧(0≤p.2.2∧p.2.2≤1)∧(∀ j,p.1≤j→p.2.1.getD j 0=Y.getD j 0)∧wz (p.2.1.take p.1)+4294967296 ^ p.1*p.2.2=wz (Y.take p.1)+wz (ds.take p.1)}=>⟨[(66,.lit (.int .i64 z.1.1)),(65,.lit (.int .i64 ds.length)),(64,.sl (aH .u32 ds)),(12,.lit (.int .u32 z.1.2.2)),(0,.ref 0 A.length V.length m),(1,.sl (aH .u32 ds))],[(0,.vec 1 (aH .u32 (A++(z.1.2.1++C))))],39⟩) (fun z=>ds.length - z.1.1) ⟨(0,Y,0),Af _,f1,hY,⟨Ai 0,by simp⟩,fun _ _=>rfl,by simp[wz]⟩ zw ?_
  rintro⟨⟨i,Z,c⟩,hi,dZ,hZ,hc1,hsame,hv⟩
  dsimp only at hi dZ hZ hc1 hsame hv ⊢
  have dzi:=dZ.getD i
  have ddi:=dd.getD i
  have dzn:=dZ.getD ds.length
  have step:i<ds.length→∀ u c',u=(Z.getD i 0+ds.getD i 0+c) % 4294967296→c'=(Z.getD i 0+ds.getD i 0+c) / 4294967296→(0≤u∧u<4294967296)∧(0≤c'∧c'≤1)∧wz ((Z.set i u).take (i+1))+4294967296 ^ (i+1)*c'=wz (Y.take (i+1))+wz (ds.take (i+1)):=by
   intro hlt u c' hu hc'
   have e2:=Aa (Z.getD i 0+ds.getD i 0+c) 4294967296
   refine⟨by omega,by omega,?_⟩
   rw[j2 (by omega),cW Y,cW ds,Ae,hu,hc',← hsame i (Ac _)]
   grind
  have fin:ds.length≤i→∀ u,u=IntKind.u32.wrap (Z.getD ds.length 0+c)→Z.set ds.length u=dgp V.length (wz V - (q - 1)*wz ds).toNat:=by
   intro hge u hu
   obtain rfl:i=ds.length:=by omega
   have e2:=j2 (xs:=Z) (i:=ds.length) (by omega) u
   rw[dL (xs:=Z.set ds.length u) (by simp;omega)]at e2
   have e3:=cW Y ds.length
   rw[dL (by omega),← hsame _ (Ac _)]at e3
   rw[dL (Ac _)]at hv
   have hlt:=jX (dZ.take ds.length)
   have hl:(Z.take ds.length).length=ds.length:=by simp;omega
   rw[hl]at hlt
   have hnn:=eC (dZ.take ds.length)
   rw[hV,Ae]at f3
   have hp:(0:Int)<4294967296 ^ ds.length:=As (by decide)
   have htot:wz (Z.take ds.length)+4294967296 ^ ds.length*(Z.getD ds.length 0+c)=wz V - (q - 1)*wz ds+4294967296 ^ ds.length*4294967296:=by grind
   have ht:Z.getD ds.length 0+c=4294967296:=by
    have h1:¬ Z.getD ds.length 0+c≤4294967295:=by
     intro hle
     have:=Int.mul_le_mul_of_nonneg_left hle (Int.le_of_lt hp)
     grind
    omega
   have hu0:u=0:=by rw[hu,ht];decide
   apply rI (dZ.set (by omega)) (by simpa using hZ)
   rw[e2,hu0]
   rw[ht]at htot
   omega
  repeat'(first|refine zk ?_|(refine zu ?_ ?_<;>intro hc)|(refine AW.ret (b9 ?_ ?_)<;>simp -dsimp (disch:=try exact zo)only[go_sem,j8,nE])|(refine zf (c196 _ _ _ (by omega) (by omega) (by omega)) ?_)|(refine zf (c194 _ _ _ (by omega) (by omega) (by omega)) ?_)|(refine zv ?_ ?_<;>intro hg)|omega|simp -dsimp (disch:=try exact zo)only[go_sem,j8,nE]|contradiction|rfl)
  ·obtain⟨s1,s2,s3⟩:=step (by omega) _ _ rfl rfl
   exact AW.stop ⟨⟨(i+1,Z.set i ((Z.getD i 0+ds.getD i 0+c) % 4294967296),(Z.getD i 0+ds.getD i 0+c) / 4294967296),by dsimp only;omega,dZ.set s1,by simpa using hZ,s2,fun j hj=>by dsimp only at hj ⊢;rw[vP (by omega)];exact hsame j (by omega),s3⟩,zw,by dsimp only;omega⟩
  ·rw[fin (by omega) _ rfl]
end Go.Proofs.Vx
