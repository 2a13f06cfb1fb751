import Derived.Test.YtjlfgmhmalbiiaaGreatDoorV11
set_option linter.all false
set_option maxHeartbeats 3200000
namespace Go.Proofs.Vx
open Go Go.Sx Go.Proofs Tryz
attribute [local irreducible] fnT CallOK CallFr AW aO callV aP aN aM aQ gcaseP hid
theorem iJ:fnT prog 193=true:=by kernel_rfl
theorem mF (m:ByteArray):(lmN (nv m)).length≤(m.size+3) / 4:=by rw[uF];have:=dF m;omega
theorem a0j {xs:List Int} {n:Nat} (h:xs.length≤n):xs.take n=xs:=List.take_of_length_le h
theorem lI (a b:ByteArray) (ha:a.size<274877906944) (hb:b.size<274877906944):CallOK prog 147 [.lit (.string a),.lit (.string b)] [] (.lit (.string (nb (nv a+nv b)))) []:=by
 refine zs func147 60 [.tmp 4] results147 ?_
 simp only[aD,Nat.reduceAdd]
 have la:=mF a
 have lb:=mF b
 have da:=kO (nv a)
 have db:=kO (nv b)
 have wa:=kR (nv a)
 have wb:=kR (nv b)
 repeat'(first|refine zg ?_|refine zr ?_|(first|refine dJ (.sl (aJ .u32 (lmN (nv a)))) iJ (i0 a (by omega)) (by simp -dsimp (disch:=try exact zo)only[go_sem]) (by rw[gJ,aU];trivial) ?_|refine dJ (.sl (aJ .u32 (lmN (nv b)))) iJ (i0 b (by omega)) (by simp -dsimp (disch:=try exact zo)only[go_sem]) (by rw[gJ,aU];trivial) ?_)|refine⟨by omega,?_⟩|(refine zb ?_ ?_<;>intro hg<;>(try rw[hg])<;>try simp only[NM]at hg)|omega|simp -dsimp (disch:=try exact zo)only[go_sem]|contradiction|rfl)
 generalize lmN (nv a)=X at *
 generalize lmN (nv b)=Y at *
 refine a6e (fun z:{p:List Int × List Int // p.2.length≤p.1.length∧p.1.length<274877906944∧Dig p.1∧Dig p.2∧wz p.1+wz p.2=nv a+nv b}=>⟨[(5,.sl (aJ .u32 z.1.1)),(6,.sl (aJ .u32 z.1.2))],[],20⟩) ?_ ?_
 ·repeat'(first|refine zg ?_|(refine zc ?_ ?_<;>intro hc<;>try simp only[NM]at hc)|refine zr ?_|refine⟨by omega,?_⟩|(refine zb ?_ ?_<;>intro hg<;>(try rw[hg])<;>try simp only[NM]at hg)|omega|simp -dsimp (disch:=try exact zo)only[go_sem]|contradiction|rfl)
  ·exact AW.stop ⟨⟨(Y,X),by dsimp only;omega,by dsimp only;omega,db,da,by dsimp only;omega⟩,(aH (by refine⟨?_,?_,?_,?_⟩<;>simp -dsimp (disch:=try exact zo)only[go_sem,ZC]))⟩
  ·exact AW.stop ⟨⟨(X,Y),by dsimp only;omega,by dsimp only;omega,da,db,by dsimp only;omega⟩,(aH (by refine⟨?_,?_,?_,?_⟩<;>simp -dsimp (disch:=try exact zo)only[go_sem,ZC]))⟩
 clear la lb da db wa wb X Y
 rintro⟨⟨xs,ys⟩,hl,hn,dx,dy,hw⟩
 dsimp only at hl hn dx dy hw ⊢
 have eN:((xs.length:Int)+1).toNat=xs.length+1:=by omega
 repeat'(first|refine zg ?_|(refine zc ?_ ?_<;>intro hc<;>try simp only[NM]at hc)|refine zr ?_|refine⟨by omega,?_⟩|(refine zb ?_ ?_<;>intro hg<;>(try rw[hg])<;>try simp only[NM]at hg)|omega|simp -dsimp (disch:=try exact zo)only[go_sem,eN]|contradiction|rfl)
 refine AW.loop (fun z:{p:Nat × List Int × Int // p.1≤xs.length∧Dig p.2.1∧p.2.1.length=xs.length+1∧(0≤p.2.2∧p.2.2≤1)∧wz (p.2.1.take p.1)+4294967296 ^ p.1*p.2.2=wz (xs.take p.1)+wz (ys.take p.1)}=>⟨[(28,.lit (.int .i64 z.1.1)),(27,.lit (.int .i64 xs.length)),(26,.sl (aJ .u32 xs)),(8,.lit (.int .u32 z.1.2.2)),(7,.ref 23 0 (xs.length+1) (xs.length+1)),(5,.sl (aJ .u32 xs)),(6,.sl (aJ .u32 ys))],[(23,.vec 1 (aJ .u32 z.1.2.1))],29⟩) (fun z=>xs.length - z.1.1) ⟨(0,List.replicate (xs.length+1) 0,0),Nat.zero_le _,Dig.rep _,by simp,⟨Int.le_refl 0,Int.zero_le_ofNat 1⟩,by simp[wz]⟩ (aH (by refine⟨?_,?_,?_,?_⟩<;>simp -dsimp (disch:=try exact zo)only[go_sem,ZC])) ?_
 rintro⟨⟨i,out,c⟩,hi,dO,ho,hc1,hv⟩
 dsimp only at hi dO ho hc1 hv ⊢
 have dxi:=dx.getD i
 have dyi:=dy.getD i
 have step : i < xs.length → ∀ y, y = ys.getD i 0 → Dig (out.set i ((xs.getD i 0 + y + c) % 4294967296)) ∧ (0 ≤ (xs.getD i 0 + y + c) / 4294967296 ∧ (xs.getD i 0 + y + c) / 4294967296 ≤ 1) ∧
   wz ((out.set i ((xs.getD i 0+y+c) % 4294967296)).take (i+1))+4294967296 ^ (i+1)*((xs.getD i 0+y+c) / 4294967296)=wz (xs.take (i+1))+wz (ys.take (i+1)):=by
  rintro hlt y rfl
  refine⟨dO.set (by omega),by omega,?_⟩
  rw[jI (by omega),cO,cO,Int.pow_succ]
  have:=Int.mul_ediv_add_emod (xs.getD i 0+ys.getD i 0+c) 4294967296
  grind
 have fin:xs.length≤i→Dig (out.set xs.length c)∧wv (out.set xs.length c)=nv a+nv b:=by
  intro hge
  obtain rfl:i=xs.length:=by omega
  have hd:Dig (out.set xs.length c):=dO.set (by omega)
  refine⟨hd,?_⟩
  have h1:=p8 hd
  have h2:=jI (xs:=out) (i:=xs.length) (by omega) c
  rw[List.take_of_length_le (by simp;omega)]at h2
  rw[a0j (Nat.le_refl _),a0j hl]at hv
  omega
 repeat'(first|refine zg ?_|(refine zc ?_ ?_<;>intro hc<;>try simp only[NM]at hc)|refine zr ?_|(refine zf (c194 _ _ _ (by omega) (by omega) (by omega)) ?_)|(refine gZ (.lit (.string (nb (wv (out.set xs.length c))))) nG (oE (out.set xs.length c) (by simp;omega) (fin (by omega)).1) rfl (by simp only[b5,List.length_set,List.length_replicate];omega) (by simp -dsimp (disch:=try exact zo)only[go_sem,aU]) (.lit _) ?_)|refine⟨by omega,?_⟩|(refine zb ?_ ?_<;>intro hg<;>(try rw[hg])<;>try simp only[NM]at hg)|omega|simp -dsimp (disch:=try exact zo)only[go_sem]|contradiction|rfl)
 ·obtain⟨s1,s2,s3⟩:=step (by omega) _ rfl
  exact AW.stop ⟨⟨(i+1,out.set i ((xs.getD i 0+ys.getD i 0+c) % 4294967296),(xs.getD i 0+ys.getD i 0+c) / 4294967296),by dsimp only;omega,s1,by simpa using ho,s2,s3⟩,(aH (by refine⟨?_,?_,?_,?_⟩<;>simp -dsimp (disch:=try exact zo)only[go_sem,ZC])),by dsimp only;omega⟩
 ·obtain⟨s1,s2,s3⟩:=step (by omega) 0 (by rw[List.getD_eq_getElem?_getD,List.getElem?_eq_none (by omega)];rfl)
  exact AW.stop ⟨⟨(i+1,out.set i ((xs.getD i 0+0+c) % 4294967296),(xs.getD i 0+0+c) / 4294967296),by dsimp only;omega,s1,by simpa using ho,s2,s3⟩,(aH (by refine⟨?_,?_,?_,?_⟩<;>simp -dsimp (disch:=try exact zo)only[go_sem,ZC])),by dsimp only;omega⟩
 ·rw[(fin (by omega)).2]
end Go.Proofs.Vx
namespace Go.Proofs.Vx
open Go Go.Sx Go.Proofs Tryz
attribute [local irreducible] fnT CallOK CallFr AW aO callV aP aN aM aQ gcaseP hid
theorem c148 (a b:ByteArray) (ha:a.size<274877906944) (hb:b.size<274877906944):CallOK prog 148 [.lit (.string a),.lit (.string b)] [] (.tup [.lit (.string (if nv a<nv b then ⟨#[]⟩else nb (nv a - nv b))),.lit (.bool (decide (nv b≤nv a)))]) []:=by
 refine zs func148 52 [.tmp 4,.tmp 5] results148 ?_
 simp only[aD,Nat.reduceAdd]
 have la:=mF a
 have lb:=mF b
 have da:=kO (nv a)
 have db:=kO (nv b)
 have wa:=kR (nv a)
 have wb:=kR (nv b)
 have lab:nv b≤nv a→(lmN (nv b)).length≤(lmN (nv a)).length:=a3p
 have hc:=@c2n (nv a) (nv b)
 repeat'(first|refine zg ?_|(refine zc ?_ ?_<;>intro hc<;>try simp only[NM]at hc)|refine zr ?_|(first|refine dJ (.sl (aJ .u32 (lmN (nv a)))) iJ (i0 a (by omega)) (by simp -dsimp (disch:=try exact zo)only[go_sem]) (by rw[gJ,aU];trivial) ?_|refine dJ (.sl (aJ .u32 (lmN (nv b)))) iJ (i0 b (by omega)) (by simp -dsimp (disch:=try exact zo)only[go_sem]) (by rw[gJ,aU];trivial) ?_)|(refine zf (c195 a b (by omega) (by omega)) ?_)|refine⟨by omega,?_⟩|(refine zb ?_ ?_<;>intro hg<;>(try rw[hg])<;>try simp only[NM]at hg)|omega|simp -dsimp (disch:=try exact zo)only[go_sem]|contradiction|rfl)
 ·have h:nv a<nv b:=by omega
  simp only[if_pos h,show ¬ nv b≤nv a by omega,decide_false]
 have h:¬ nv a<nv b:=by omega
 simp only[if_neg h,show nv b≤nv a by omega,decide_true]
 generalize lmN (nv a)=xs at *
 generalize lmN (nv b)=ys at *
 have hl:=lab (by omega)
 refine AW.loop (fun z:{p:Nat × List Int × Int // p.1≤xs.length∧Dig p.2.1∧p.2.1.length=xs.length∧(0≤p.2.2∧p.2.2≤1)∧wz (p.2.1.take p.1) - 4294967296 ^ p.1*p.2.2=wz (xs.take p.1) - wz (ys.take p.1)}=>⟨[(25,.lit (.int .i64 z.1.1)),(24,.lit (.int .i64 xs.length)),(23,.sl (aJ .u32 xs)),(9,.lit (.int .u32 z.1.2.2)),(8,.ref 22 0 xs.length xs.length),(6,.sl (aJ .u32 xs)),(7,.sl (aJ .u32 ys))],[(22,.vec 1 (aJ .u32 z.1.2.1))],30⟩) (fun z=>xs.length - z.1.1) ⟨(0,List.replicate xs.length 0,0),Nat.zero_le _,Dig.rep _,by simp,⟨Int.le_refl 0,Int.zero_le_ofNat 1⟩,by simp[wz]⟩ (aH (by refine⟨?_,?_,?_,?_⟩<;>simp -dsimp (disch:=try exact zo)only[go_sem,ZC])) ?_
 rintro⟨⟨i,out,c⟩,hi,dO,ho,hc1,hv⟩
 dsimp only at hi dO ho hc1 hv ⊢
 have dxi:=da.getD i
 have dyi:=db.getD i
 have step : i < xs.length → ∀ y, y = ys.getD i 0 → Dig (out.set i ((xs.getD i 0 - y - c) % 4294967296)) ∧ (0 ≤ (if xs.getD i 0 < y + c then (1 : Int) else 0) ∧ (if xs.getD i 0 < y + c then (1 : Int) else 0) ≤ 1) ∧
   wz ((out.set i ((xs.getD i 0 - y - c) % 4294967296)).take (i+1)) - 4294967296 ^ (i+1)*(if xs.getD i 0<y+c then (1:Int)else 0)=wz (xs.take (i+1)) - wz (ys.take (i+1)):=by
  rintro hlt y rfl
  refine⟨dO.set (by omega),by split<;>omega,?_⟩
  rw[jI (by omega),cO,cO,Int.pow_succ]
  have:(xs.getD i 0 - ys.getD i 0 - c) % 4294967296=xs.getD i 0 - ys.getD i 0 - c+4294967296*(if xs.getD i 0<ys.getD i 0+c then (1:Int)else 0):=by split<;>omega
  rw[this]
  generalize (if xs.getD i 0<ys.getD i 0+c then (1:Int)else 0)=d
  grind
 have fin:xs.length≤i→wv out=nv a - nv b:=by
  intro hge
  obtain rfl:i=xs.length:=by omega
  have h1:=p8 dO
  rw[c7 (Nat.le_of_eq ho),c7 (Nat.le_refl _),c7 hl]at hv
  have h2:=jC dO
  rw[ho]at h2
  have h3:=dK dO
  have hp:(0:Int)<4294967296 ^ xs.length:=Int.pow_pos (by decide)
  rcases (show c=0∨c=1 by omega)with rfl|rfl
  ·omega
  ·omega
 repeat'(first|refine zg ?_|(refine zc ?_ ?_<;>intro hc<;>try simp only[NM]at hc)|refine zr ?_|(refine zf (c196 _ _ _ (by omega) (by omega) (by omega)) ?_)|(refine gZ (.lit (.string (nb (wv out)))) nG (oE out (by omega) dO) rfl (by simp only[b5,List.length_set,List.length_replicate];omega) (by simp -dsimp (disch:=try exact zo)only[go_sem,aU]) (.lit _) ?_)|refine⟨by omega,?_⟩|(refine zb ?_ ?_<;>intro hg<;>(try rw[hg])<;>try simp only[NM]at hg)|omega|simp -dsimp (disch:=try exact zo)only[go_sem]|contradiction|rfl)
 ·obtain⟨s1,s2,s3⟩:=step (by omega) _ rfl
  exact AW.stop ⟨⟨(i+1,out.set i ((xs.getD i 0 - ys.getD i 0 - c) % 4294967296),if xs.getD i 0<ys.getD i 0+c then 1 else 0),by dsimp only;omega,s1,by simpa using ho,s2,s3⟩,(aH (by refine⟨?_,?_,?_,?_⟩<;>simp -dsimp (disch:=try exact zo)only[go_sem,ZC])),by dsimp only;omega⟩
 ·obtain⟨s1,s2,s3⟩:=step (by omega) 0 (by rw[List.getD_eq_getElem?_getD,List.getElem?_eq_none (by omega)];rfl)
  exact AW.stop ⟨⟨(i+1,out.set i ((xs.getD i 0 - 0 - c) % 4294967296),if xs.getD i 0<0+c then 1 else 0),by dsimp only;omega,s1,by simpa using ho,s2,s3⟩,(aH (by refine⟨?_,?_,?_,?_⟩<;>simp -dsimp (disch:=try exact zo)only[go_sem,ZC])),by dsimp only;omega⟩
 ·rw[fin (by omega)]
end Go.Proofs.Vx
namespace Go.Proofs.Vx
open Go Go.Sx Go.Proofs Tryz
attribute [local irreducible] fnT CallOK CallFr AW aO callV aP aN aM aQ gcaseP hid
theorem c149 (a b:ByteArray) (ha:a.size<274877906944) (hb:b.size<274877906944):CallOK prog 149 [.lit (.string a),.lit (.string b)] [] (.lit (.string (nb (nv a*nv b)))) []:=by
 refine zs func149 74 [.tmp 4] results149 ?_
 simp only[aD,Nat.reduceAdd]
 have la:=mF a
 have lb:=mF b
 have da:=kO (nv a)
 have db:=kO (nv b)
 have wa:=kR (nv a)
 have wb:=kR (nv b)
 repeat'(first|refine zg ?_|(refine zc ?_ ?_<;>intro hc<;>try simp only[NM]at hc)|refine zr ?_|(first|refine dJ (.sl (aJ .u32 (lmN (nv a)))) iJ (i0 a (by omega)) (by simp -dsimp (disch:=try exact zo)only[go_sem]) (by rw[gJ,aU];trivial) ?_|refine dJ (.sl (aJ .u32 (lmN (nv b)))) iJ (i0 b (by omega)) (by simp -dsimp (disch:=try exact zo)only[go_sem]) (by rw[gJ,aU];trivial) ?_)|refine⟨by omega,?_⟩|(refine zb ?_ ?_<;>intro hg<;>(try rw[hg])<;>try simp only[NM]at hg)|omega|simp -dsimp (disch:=try exact zo)only[go_sem]|contradiction|rfl)
 generalize lmN (nv a)=xs at *
 generalize lmN (nv b)=ys at *
 have eN:((xs.length:Int)+ys.length).toNat=xs.length+ys.length:=by omega
 rw[eN]
 generalize hN:xs.length+ys.length=N at *
 refine AW.loop (fun z:{p:Nat × List Int // p.1≤xs.length∧Dig p.2∧p.2.length=N∧wz p.2=wz (xs.take p.1)*wz ys∧∀ j,p.1+ys.length≤j→p.2.getD j 0=0}=>⟨[(24,.lit (.int .i64 z.1.1)),(23,.lit (.int .i64 xs.length)),(22,.sl (aJ .u32 xs)),(7,.ref 20 0 N N),(5,.sl (aJ .u32 xs)),(6,.sl (aJ .u32 ys))],[(20,.vec 1 (aJ .u32 z.1.2))],25⟩) (fun z=>xs.length - z.1.1) ⟨(0,List.replicate N 0),Nat.zero_le _,Dig.rep _,by simp,by simp[wz,a6l],fun j _=>a3s _ _⟩ (aH (by refine⟨?_,?_,?_,?_⟩<;>simp -dsimp (disch:=try exact zo)only[go_sem,ZC])) ?_
 rintro⟨⟨i,out⟩,hi,dO,ho,hv,hz⟩
 dsimp only at hi dO ho hv hz ⊢
 have dxi:=da.getD i
 have fin:xs.length≤i→wv out=nv a*nv b:=by
  intro hge
  have h1:=p8 dO
  rw[c7 hge]at hv
  rw[wa,wb]at hv
  have:((nv a*nv b:Nat):Int)=(nv a:Int)*nv b:=by norm_cast
  omega
 repeat'(first|refine zg ?_|(refine zc ?_ ?_<;>intro hc<;>try simp only[NM]at hc)|refine zr ?_|(refine gZ (.lit (.string (nb (wv out)))) nG (oE out (by omega) dO) rfl (by simp only[b5,List.length_set,List.length_replicate];omega) (by simp -dsimp (disch:=try exact zo)only[go_sem,aU]) (.lit _) ?_)|refine⟨by omega,?_⟩|(refine zb ?_ ?_<;>intro hg<;>(try rw[hg])<;>try simp only[NM]at hg)|omega|simp -dsimp (disch:=try exact zo)only[go_sem]|contradiction|rfl)
 ·have hi':i<xs.length:=by omega
  refine AW.loop (fun z:{p:Nat × List Int × Int // p.1≤ys.length∧Dig p.2.1∧p.2.1.length=N∧(0≤p.2.2∧p.2.2<4294967296)∧wz p.2.1+4294967296 ^ (i+p.1)*p.2.2=wz out+xs.getD i 0*4294967296 ^ i*wz (ys.take p.1)∧∀ j,i+ys.length≤j→p.2.1.getD j 0=0}=>⟨[(29,.lit (.int .i64 z.1.1)),(28,.lit (.int .i64 ys.length)),(27,.sl (aJ .u32 ys)),(9,.lit (.int .u64 z.1.2.2)),(8,.lit (.int .i64 i)),(24,.lit (.int .i64 i)),(23,.lit (.int .i64 xs.length)),(22,.sl (aJ .u32 xs)),(7,.ref 20 0 N N),(5,.sl (aJ .u32 xs)),(6,.sl (aJ .u32 ys))],[(20,.vec 1 (aJ .u32 z.1.2.1))],32⟩) (fun z=>ys.length - z.1.1) ⟨(0,out,0),Nat.zero_le _,dO,ho,⟨Int.le_refl 0,by simp⟩,by simp[wz],hz⟩ (aH (by refine⟨?_,?_,?_,?_⟩<;>simp -dsimp (disch:=try exact zo)only[go_sem,ZC])) ?_
  rintro⟨⟨k,o2,c⟩,hk,dP,hp,hc1,hw,hy⟩
  dsimp only at hk dP hp hc1 hw hy ⊢
  have dyk:=db.getD k
  have dok:=dP.getD (i+k)
  have eik:((i:Int)+k).toNat=i+k:=by omega
  have ein:((i:Int)+ys.length).toNat=i+ys.length:=by omega
  have hpr:0≤xs.getD i 0*ys.getD k 0∧xs.getD i 0*ys.getD k 0≤18446744065119617025:=by
   have h1:=Int.mul_nonneg dxi.1 dyk.1
   have h2:=Int.mul_le_mul (show xs.getD i 0≤4294967295 by omega) (show ys.getD k 0≤4294967295 by omega) dyk.1 (by decide)
   omega
  have step:k<ys.length→wz (o2.set (i+k) (IntKind.u32.wrap (xs.getD i 0*ys.getD k 0+o2.getD (i+k) 0+c)))+4294967296 ^ (i+(k+1))*((xs.getD i 0*ys.getD k 0+o2.getD (i+k) 0+c) / 4294967296)=wz out+xs.getD i 0*4294967296 ^ i*wz (ys.take (k+1)):=by
   intro hlt
   rw[a6k (by omega),cO,g7,← Nat.add_assoc,Int.pow_succ]
   have:=Int.mul_ediv_add_emod (xs.getD i 0*ys.getD k 0+o2.getD (i+k) 0+c) 4294967296
   have hpw:(4294967296:Int) ^ (i+k)=4294967296 ^ i*4294967296 ^ k:=Int.pow_add _ _ _
   grind
  have fin2:ys.length≤k→wz (o2.set (i+ys.length) c)=wz (xs.take (i+1))*wz ys:=by
   intro hge
   rw[a6k (by omega),hy _ (Nat.le_refl _),cO]
   obtain rfl:k=ys.length:=by omega
   rw[c7 (Nat.le_refl _)]at hw
   grind
  repeat'(first|refine zg ?_|(refine zc ?_ ?_<;>intro hc<;>try simp only[NM]at hc)|refine zr ?_|refine⟨by omega,?_⟩|(refine zb ?_ ?_<;>intro hg<;>(try rw[hg])<;>try simp only[NM]at hg)|omega|simp -dsimp (disch:=try exact zo)only[go_sem,eik,ein]|contradiction|rfl)
  ·exact AW.stop ⟨⟨(k+1,o2.set (i+k) (IntKind.u32.wrap (xs.getD i 0*ys.getD k 0+o2.getD (i+k) 0+c)),(xs.getD i 0*ys.getD k 0+o2.getD (i+k) 0+c) / 4294967296),by dsimp only;omega,dP.set (sP _),by simpa using hp,by dsimp only;omega,step (by omega),fun j hj=>by dsimp only;rw[tX (by omega)];exact hy j hj⟩,(aH (by refine⟨?_,?_,?_,?_⟩<;>simp -dsimp (disch:=try exact zo)only[go_sem,ZC])),by dsimp only;omega⟩
  ·exact AW.stop ⟨⟨(i+1,o2.set (i+ys.length) c),by dsimp only;omega,dP.set hc1,by simpa using hp,fin2 (by omega),fun j hj=>by dsimp only at hj ⊢;rw[tX (by omega)];exact hy j (by omega)⟩,(aH (by refine⟨?_,?_,?_,?_⟩<;>simp -dsimp (disch:=try exact zo)only[go_sem,ZC])),by dsimp only;omega⟩
 ·rw[fin (by omega)]
end Go.Proofs.Vx
namespace Go.Proofs.Vx
open Go Go.Sx Go.Proofs Tryz
attribute [local irreducible] fnT CallOK CallFr AW aO callV aP aN aM aQ gcaseP hid
theorem b9o:kiT prog 3=some .i64∧bM prog 3=false:=by and_intros<;>kernel_rfl
attribute [go_sem] b9o
theorem c255 (h l y:Int) (hh:0≤h∧h<y) (hl:0≤l∧l<4294967296) (hy:y<4294967296):CallOK prog 255 [.lit (.int .u32 h),.lit (.int .u32 l),.lit (.int .u32 y)] [] (.tup [.lit (.int .u32 ((h*4294967296+l) / y)),.lit (.int .u32 ((h*4294967296+l) % y))]) []:=by
 refine zs func255 33 [.tmp 6,.tmp 7] results255 ?_
 simp only[aD,Nat.reduceAdd]
 have hor:IntKind.u64.wrap ((BitVec.ofInt IntKind.u64.bits (h*4294967296) ||| BitVec.ofInt IntKind.u64.bits l).toNat:Int)=h*4294967296+l:=by
  have e:(2:Int) ^ 32=4294967296:=by decide
  have e64:(2:Int) ^ IntKind.u64.bits=18446744073709551616:=by decide
  rw[BitVec.or_comm,sS (a:=l) (b:=h*4294967296) (j:=32) (by omega) (by omega) (by omega) (by omega) (by rw[e64];omega) rfl]
  omega
 have hq:0≤(h*4294967296+l) / y∧(h*4294967296+l) / y<4294967296:=by
  refine⟨Int.ediv_nonneg (by omega) (by omega),?_⟩
  rw[Int.ediv_lt_iff_lt_mul (by omega)]
  omega
 have hr1:=Int.emod_nonneg (h*4294967296+l) (show y≠0 by omega)
 have hr2:=Int.emod_lt_of_pos (h*4294967296+l) (show 0<y by omega)
 have hy0:(y=0)=False:=by simp;omega
 have hyh:(y≤h)=False:=by simp;omega
 repeat'(first|refine zg ?_|(refine zc ?_ ?_<;>intro hc<;>try simp only[NM]at hc)|refine zr ?_|refine⟨by omega,?_⟩|(refine zb ?_ ?_<;>intro hg<;>(try rw[hg])<;>try simp only[NM]at hg)|omega|simp -dsimp (disch:=try exact zo)only[go_sem,hor,hy0,hyh]|contradiction|rfl)
theorem c0i:((([0,1,2,2,3,3,3,3,4,4,4,4,4,4,4,4,5,5,5,5,5,5,5,5,5,5,5,5,5,5,5,5,6,6,6,6,6,6,6,6,6,6,6,6,6,6,6,6,6,6,6,6,6,6,6,6,6,6,6,6,6,6,6,6]:List UInt8).append [7,7,7,7,7,7,7,7,7,7,7,7,7,7,7,7,7,7,7,7,7,7,7,7,7,7,7,7,7,7,7,7,7,7,7,7,7,7,7,7,7,7,7,7,7,7,7,7,7,7,7,7,7,7,7,7,7,7,7,7,7,7,7,7]).append ([8,8,8,8,8,8,8,8,8,8,8,8,8,8,8,8,8,8,8,8,8,8,8,8,8,8,8,8,8,8,8,8,8,8,8,8,8,8,8,8,8,8,8,8,8,8,8,8,8,8,8,8,8,8,8,8,8,8,8,8,8,8,8,8].append [8,8,8,8,8,8,8,8,8,8,8,8,8,8,8,8,8,8,8,8,8,8,8,8,8,8,8,8,8,8,8,8,8,8,8,8,8,8,8,8,8,8,8,8,8,8,8,8,8,8,8,8,8,8,8,8,8,8,8,8,8,8,8,8])).length=256:=by kernel_rfl
theorem c3p:a7w ((([0,1,2,2,3,3,3,3,4,4,4,4,4,4,4,4,5,5,5,5,5,5,5,5,5,5,5,5,5,5,5,5,6,6,6,6,6,6,6,6,6,6,6,6,6,6,6,6,6,6,6,6,6,6,6,6,6,6,6,6,6,6,6,6]:List UInt8).append [7,7,7,7,7,7,7,7,7,7,7,7,7,7,7,7,7,7,7,7,7,7,7,7,7,7,7,7,7,7,7,7,7,7,7,7,7,7,7,7,7,7,7,7,7,7,7,7,7,7,7,7,7,7,7,7,7,7,7,7,7,7,7,7]).append ([8,8,8,8,8,8,8,8,8,8,8,8,8,8,8,8,8,8,8,8,8,8,8,8,8,8,8,8,8,8,8,8,8,8,8,8,8,8,8,8,8,8,8,8,8,8,8,8,8,8,8,8,8,8,8,8,8,8,8,8,8,8,8,8].append [8,8,8,8,8,8,8,8,8,8,8,8,8,8,8,8,8,8,8,8,8,8,8,8,8,8,8,8,8,8,8,8,8,8,8,8,8,8,8,8,8,8,8,8,8,8,8,8,8,8,8,8,8,8,8,8,8,8,8,8,8,8,8,8]))=true:=by kernel_rfl
theorem c3q (x:Int) (h:0≤x) (h2:x<256):bt ⟨((([0,1,2,2,3,3,3,3,4,4,4,4,4,4,4,4,5,5,5,5,5,5,5,5,5,5,5,5,5,5,5,5,6,6,6,6,6,6,6,6,6,6,6,6,6,6,6,6,6,6,6,6,6,6,6,6,6,6,6,6,6,6,6,6]:List UInt8).append [7,7,7,7,7,7,7,7,7,7,7,7,7,7,7,7,7,7,7,7,7,7,7,7,7,7,7,7,7,7,7,7,7,7,7,7,7,7,7,7,7,7,7,7,7,7,7,7,7,7,7,7,7,7,7,7,7,7,7,7,7,7,7,7]).append ([8,8,8,8,8,8,8,8,8,8,8,8,8,8,8,8,8,8,8,8,8,8,8,8,8,8,8,8,8,8,8,8,8,8,8,8,8,8,8,8,8,8,8,8,8,8,8,8,8,8,8,8,8,8,8,8,8,8,8,8,8,8,8,8].append [8,8,8,8,8,8,8,8,8,8,8,8,8,8,8,8,8,8,8,8,8,8,8,8,8,8,8,8,8,8,8,8,8,8,8,8,8,8,8,8,8,8,8,8,8,8,8,8,8,8,8,8,8,8,8,8,8,8,8,8,8,8,8,8])).toArray⟩ x.toNat=(bO x.toNat:Int):=b6d c3p (by omega)
theorem b2o (n:Int):n.fdiv (2 ^ min 16 32)=n / 65536:=by
 have e:(2:Int) ^ min 16 32=65536:=by decide
 rw[e,Int.fdiv_eq_ediv_of_nonneg _ (by decide)]
theorem b6g (n:Int):n.fdiv (2 ^ min 8 32)=n / 256:=by
 have e:(2:Int) ^ min 8 32=256:=by decide
 rw[e,Int.fdiv_eq_ediv_of_nonneg _ (by decide)]
theorem c205 (x:Int) (hx:0≤x∧x<4294967296):CallOK prog 205 [.lit (.int .u32 x)] [] (.lit (.int .i64 (bO x.toNat))) []:=by
 refine zs func205 19 [.tmp 2] results205 ?_
 simp only[aD,Nat.reduceAdd]
 have b0:x<256→bO x.toNat≤8:=fun h=>nL (k:=8) (by omega)
 have b1:x<16777216→bO (x / 65536).toNat≤8:=fun h=>nL (k:=8) (by omega)
 have b2:x<65536→bO (x / 256).toNat≤8:=fun h=>nL (k:=8) (by omega)
 have b3:bO (x / 65536 / 256).toNat≤8:=nL (k:=8) (by omega)
 have s1:65536≤x→bO x.toNat=16+bO (x / 65536).toNat:=fun h=>by
  rw[xF x.toNat 16 (by omega)];congr 2;omega
 have s2:256≤x→bO x.toNat=8+bO (x / 256).toNat:=fun h=>by
  rw[xF x.toNat 8 (by omega)];congr 2;omega
 have s3:256≤x / 65536→bO (x / 65536).toNat=8+bO (x / 65536 / 256).toNat:=fun h=>by
  rw[xF (x / 65536).toNat 8 (by omega)];congr 2;omega
 repeat'(first|refine zg ?_|(refine zc ?_ ?_<;>intro hc<;>try simp only[NM]at hc)|refine zr ?_|refine⟨by omega,?_⟩|(refine zb ?_ ?_<;>intro hg<;>(try rw[hg])<;>try simp only[NM]at hg)|omega|simp -dsimp (disch:=try exact zo)only[go_sem,c0i,c3q,b2o,b6g]|contradiction|rfl)
 all_goals (congr 2;omega)
theorem c256 (x:Int) (hx:0≤x∧x<4294967296):CallOK prog 256 [.lit (.int .u32 x)] [] (.lit (.int .i64 (32 - (bO x.toNat:Int)))) []:=by
 refine zs func256 6 [.tmp 2] results256 ?_
 simp only[aD,Nat.reduceAdd]
 have b0:bO x.toNat≤32:=nL (k:=32) (by omega)
 repeat'(first|refine zg ?_|(refine zc ?_ ?_<;>intro hc<;>try simp only[NM]at hc)|refine zr ?_|refine zf (c205 _ hx) ?_|refine⟨by omega,?_⟩|(refine zb ?_ ?_<;>intro hg<;>(try rw[hg])<;>try simp only[NM]at hg)|omega|simp -dsimp (disch:=try exact zo)only[go_sem]|contradiction|rfl)
end Go.Proofs.Vx
namespace Go.Proofs.Vx
open Go Go.Sx Go.Proofs Tryz
attribute [local irreducible] fnT CallOK CallFr AW aO callV aP aN aM aQ gcaseP hid
theorem c257 (xs:List Int) (k:Nat) (hk:k≤31) (hn:xs.length<1099511627776) (dx:Dig xs):CallFr prog 257 [.sl (aJ .u32 xs),.lit (.int .i64 k)] 1 (aJ .u32 (dgp (xs.length+1) (wz xs*2 ^ k).toNat)):=by
 refine CallFr.flat func257 rfl 41 rfl rfl (a2m _ _) [.tmp 4] (congrArg Array.toList results257) ?_
 simp only[aD,Nat.reduceAdd]
 have hk64:min k 64=k:=by omega
 have eN:((xs.length:Int)+1).toNat=xs.length+1:=by omega
 repeat'(first|refine zg ?_|(refine zc ?_ ?_<;>intro hc<;>try simp only[NM]at hc)|refine zr ?_|refine⟨by omega,?_⟩|(refine zb ?_ ?_<;>intro hg<;>(try rw[hg])<;>try simp only[NM]at hg)|omega|simp -dsimp (disch:=try exact zo)only[go_sem,eN]|contradiction|rfl)
 refine AW.loop (fun z:{p:Nat × List Int // p.1≤xs.length∧Dig p.2∧p.2.length=xs.length+1∧(p.2.getD p.1 0<2 ^ k)∧wz (p.2.take (p.1+1))=wz (xs.take p.1)*2 ^ k}=>⟨[(15,.lit (.int .i64 z.1.1)),(14,.lit (.int .i64 xs.length)),(13,.sl (aJ .u32 xs)),(1,.lit (.int .i64 k)),(5,.ref 12 0 (xs.length+1) (xs.length+1))],[(12,.vec 1 (aJ .u32 z.1.2))],17⟩) (fun z=>xs.length - z.1.1) ⟨(0,List.replicate (xs.length+1) 0),Nat.zero_le _,Dig.rep _,by simp,by dsimp only;rw[a3s];exact Int.pow_pos (by decide),by simp[wz,a6l]⟩ (aH (by refine⟨?_,?_,?_,?_⟩<;>simp -dsimp (disch:=try exact zo)only[go_sem,ZC])) ?_
 rintro⟨⟨i,out⟩,hi,dO,ho,hd,hv⟩
 dsimp only at hi dO ho hd hv ⊢
 obtain⟨s1,s2,s3,s4,s5,s6,s7⟩:=b0z hk (dx.getD i) ⟨(dO.getD i).1,hd⟩
 obtain⟨p1,p2⟩:=r8 hk
 have dxi:=dx.getD i
 have ei:((i:Int)+1).toNat=i+1:=by omega
 have step:i<xs.length→wz (((out.set i (out.getD i 0+xs.getD i 0*2 ^ k % 4294967296)).set (i+1) (xs.getD i 0*2 ^ k / 4294967296)).take (i+1+1))=wz (xs.take (i+1))*2 ^ k:=by
  intro hlt
  rw[jI (by simp;omega),jI (by omega),cO xs,Int.pow_succ]
  rw[cO]at hv
  have:=Int.mul_ediv_add_emod (xs.getD i 0*2 ^ k) 4294967296
  grind
 have fin:xs.length≤i→out=dgp (xs.length+1) (wz xs*2 ^ k).toNat:=by
  intro hge
  rw[c7 (by omega),c7 hge]at hv
  exact pV dO ho hv
 repeat'(first|refine zg ?_|(refine zc ?_ ?_<;>intro hc<;>try simp only[NM]at hc)|(refine AW.ret (pM ?_);simp -dsimp (disch:=try exact zo)only[go_sem,hk64,ei,s1]<;>try (refine⟨_,rfl,?_⟩;simp -dsimp (disch:=try exact zo)only[go_sem]))|refine⟨by omega,?_⟩|(refine zb ?_ ?_<;>intro hg<;>(try rw[hg])<;>try simp only[NM]at hg)|omega|simp -dsimp (disch:=try exact zo)only[go_sem,hk64,ei,s1]|contradiction)
 ·exact AW.stop ⟨⟨(i+1,(out.set i (out.getD i 0+xs.getD i 0*2 ^ k % 4294967296)).set (i+1) (xs.getD i 0*2 ^ k / 4294967296)),by dsimp only;omega,(dO.set ⟨s2,s3⟩).set ⟨s6,by omega⟩,by simpa using ho,by dsimp only;rw[a0c (by simp;omega)];exact s7,step (by omega)⟩,(aH (by refine⟨?_,?_,?_,?_⟩<;>simp -dsimp (disch:=try exact zo)only[go_sem,ZC])),by dsimp only;omega⟩
 ·rw[← fin (by omega)]
end Go.Proofs.Vx
namespace Go.Proofs.Vx
open Go Go.Sx Go.Proofs Tryz
attribute [local irreducible] fnT CallOK CallFr AW aO callV aP aN aM aQ gcaseP hid
theorem vK {K:Nat→Prop} {a b:AV} (h:In K a) (h':In K b):In K (.tup [a,b]):=.tup _ fun c hc=>by
 simp only[zM,or_false]at hc
 rcases hc with rfl|rfl<;>assumption
theorem fC {K:Nat→Prop} (k:IntKind) (xs:List Int):In K (.sl (aJ k xs)):=by rw[gJ,aU];trivial
theorem c239 (xs:List Int) (y:Int) (hy:0<y∧y<4294967296) (hn:xs.length<1099511627776) (dx:Dig xs):CallOK prog 239 [.sl (aJ .u32 xs),.lit (.int .u32 y)] [] (.tup [.sl (aJ .u32 (dgp xs.length (wz xs / y).toNat)),.lit (.int .u32 (wz xs % y))]) []:=by
 refine fN func239 rfl 39 rfl rfl (by exact vK (fC _ _) (.lit _)) [.tmp 4,.tmp 5] (congrArg Array.toList results239) ?_
 simp only[aD,Nat.reduceAdd]
 repeat'(first|refine zg ?_|(refine zc ?_ ?_<;>intro hc<;>try simp only[NM]at hc)|refine zr ?_|refine⟨by omega,?_⟩|(refine zb ?_ ?_<;>intro hg<;>(try rw[hg])<;>try simp only[NM]at hg)|omega|simp -dsimp (disch:=try exact zo)only[go_sem]|contradiction|rfl)
 refine AW.loop (fun z:{p:Nat × List Int × Int // p.1≤xs.length∧Dig p.2.1∧p.2.1.length=xs.length∧(0≤p.2.2∧p.2.2<y)∧wz (p.2.1.drop (xs.length - p.1))*y+p.2.2=wz (xs.drop (xs.length - p.1))}=>⟨[(15,.lit (.int .i64 z.1.1)),(14,.lit (.int .i64 xs.length)),(0,.sl (aJ .u32 xs)),(1,.lit (.int .u32 y)),(7,.lit (.int .u32 z.1.2.2)),(6,.ref 12 0 xs.length xs.length)],[(12,.vec 1 (aJ .u32 z.1.2.1))],18⟩) (fun z=>xs.length - z.1.1) ⟨(0,List.replicate xs.length 0,0),Nat.zero_le _,Dig.rep _,by simp,⟨Int.le_refl 0,hy.1⟩,by simp[wz]⟩ (aH (by refine⟨?_,?_,?_,?_⟩<;>simp -dsimp (disch:=try exact zo)only[go_sem,ZC])) ?_
 rintro⟨⟨i,out,r⟩,hi,dO,ho,hr,hv⟩
 dsimp only at hi dO ho hr hv ⊢
 have ek:i<xs.length→((xs.length:Int) - 1 - i).toNat=xs.length - 1 - i:=by omega
 have dxk:=dx.getD (xs.length - 1 - i)
 have hq1:0≤(r*4294967296+xs.getD (xs.length - 1 - i) 0) / y:=Int.ediv_nonneg (by omega) (by omega)
 have hq2:(r*4294967296+xs.getD (xs.length - 1 - i) 0) / y<4294967296:=by
  rw[Int.ediv_lt_iff_lt_mul (by omega)];omega
 have hr1:=Int.emod_nonneg (r*4294967296+xs.getD (xs.length - 1 - i) 0) (show y≠0 by omega)
 have hr2:=Int.emod_lt_of_pos (r*4294967296+xs.getD (xs.length - 1 - i) 0) (show 0<y by omega)
 have step:i<xs.length→wz ((out.set (xs.length - 1 - i) ((r*4294967296+xs.getD (xs.length - 1 - i) 0) / y)).drop (xs.length - (i+1)))*y+(r*4294967296+xs.getD (xs.length - 1 - i) 0) % y=wz (xs.drop (xs.length - (i+1))):=by
  intro hlt
  rw[show xs.length - (i+1)=xs.length - 1 - i by omega,a0i (by omega),yH xs _ (by omega)]
  rw[show xs.length - i=xs.length - 1 - i+1 by omega]at hv
  have:=Int.mul_ediv_add_emod (r*4294967296+xs.getD (xs.length - 1 - i) 0) y
  grind
 have fin:xs.length≤i→out=dgp xs.length (wz xs / y).toNat∧r=wz xs % y:=by
  intro hge
  rw[show xs.length - i=0 by omega,List.drop_zero,List.drop_zero]at hv
  have e1:wz xs / y=wz out:=by
   rw[← hv,Int.add_comm,Int.add_mul_ediv_right _ _ (by omega),Int.ediv_eq_zero_of_lt hr.1 hr.2];omega
  have e2:wz xs % y=r:=by
   rw[← hv,Int.add_comm,Int.add_mul_emod_self_right,Int.emod_eq_of_lt hr.1 hr.2]
  rw[e1,e2]
  exact⟨pV dO ho rfl,rfl⟩
 repeat'(first|refine zg ?_|(refine zc ?_ ?_<;>intro hc<;>try simp only[NM]at hc)|refine zr ?_|(refine zf (c255 _ _ _ (by omega) (by omega) (by omega)) ?_)|refine⟨by omega,?_⟩|(refine zb ?_ ?_<;>intro hg<;>(try rw[hg])<;>try simp only[NM]at hg)|omega|simp -dsimp (disch:=try exact zo)only[go_sem,ek,nK]|contradiction|rfl)
 ·exact AW.stop ⟨⟨(i+1,out.set (xs.length - 1 - i) ((r*4294967296+xs.getD (xs.length - 1 - i) 0) / y),(r*4294967296+xs.getD (xs.length - 1 - i) 0) % y),by dsimp only;omega,dO.set ⟨hq1,hq2⟩,by simpa using ho,⟨hr1,hr2⟩,step (by omega)⟩,(aH (by refine⟨?_,?_,?_,?_⟩<;>simp -dsimp (disch:=try exact zo)only[go_sem,ZC])),by dsimp only;omega⟩
 ·have h0:=nK (k:=.u32) ho
  simp only[ho,true_and]
  rw[h0,← (fin (by omega)).1,← (fin (by omega)).2]
theorem c259 (xs:List Int) (k:Nat) (hk:k≤31) (hn:xs.length<1099511627776) (dx:Dig xs):CallFr prog 259 [.sl (aJ .u32 xs),.lit (.int .i64 k)] 1 (aJ .u32 (dgp xs.length (wz xs / 2 ^ k).toNat)):=by
 refine CallFr.flat func259 rfl 44 rfl rfl (a2m _ _) [.tmp 4] (congrArg Array.toList results259) ?_
 simp only[aD,Nat.reduceAdd]
 have hk64:min k 64=k:=by omega
 obtain⟨p1,p2⟩:=r8 hk
 repeat'(first|refine zg ?_|(refine zc ?_ ?_<;>intro hc<;>try simp only[NM]at hc)|refine zr ?_|refine⟨by omega,?_⟩|(refine zb ?_ ?_<;>intro hg<;>(try rw[hg])<;>try simp only[NM]at hg)|omega|simp -dsimp (disch:=try exact zo)only[go_sem]|contradiction|rfl)
 refine AW.loop (fun z:{p:Nat × List Int // p.1≤xs.length∧Dig p.2∧p.2.length=xs.length∧wz (p.2.take p.1)*2 ^ k=wz (xs.take p.1) - xs.getD 0 0 % 2 ^ k+4294967296 ^ p.1*(xs.getD p.1 0 % 2 ^ k)}=>⟨[(13,.lit (.int .i64 z.1.1)),(12,.lit (.int .i64 xs.length)),(0,.sl (aJ .u32 xs)),(1,.lit (.int .i64 k)),(5,.ref 11 0 xs.length xs.length)],[(11,.vec 1 (aJ .u32 z.1.2))],16⟩) (fun z=>xs.length - z.1.1) ⟨(0,List.replicate xs.length 0),Nat.zero_le _,Dig.rep _,by simp,by simp[wz];omega⟩ (aH (by refine⟨?_,?_,?_,?_⟩<;>simp -dsimp (disch:=try exact zo)only[go_sem,ZC])) ?_
 rintro⟨⟨i,out⟩,hi,dO,ho,hv⟩
 dsimp only at hi dO ho hv ⊢
 have dxi:=dx.getD i
 have dxj:=dx.getD (i+1)
 have ei:((i:Int)+1).toNat=i+1:=by omega
 have hor:=zS dxi dxj
 obtain⟨u1,u2,u3⟩:=a9o hk dxi dxj
 have u4:xs.length≤i+1→xs.getD (i+1) 0=0:=fun h=>by rw[List.getD_eq_getElem?_getD,List.getElem?_eq_none h];rfl
 have step:∀ d,d=IntKind.u32.wrap ((xs.getD i 0+xs.getD (i+1) 0*4294967296) / 2 ^ k)→i<xs.length→wz ((out.set i d).take (i+1))*2 ^ k=wz (xs.take (i+1)) - xs.getD 0 0 % 2 ^ k+4294967296 ^ (i+1)*(xs.getD (i+1) 0 % 2 ^ k):=by
  rintro d rfl hlt
  rw[jI (by omega),cO,Int.pow_succ]
  grind
 have fin:xs.length≤i→out=dgp xs.length (wz xs / 2 ^ k).toNat:=by
  intro hge
  obtain rfl:i=xs.length:=by omega
  rw[c7 (Nat.le_of_eq ho),c7 (Nat.le_refl _),← c1m hk,List.getD_eq_getElem?_getD,List.getElem?_eq_none (Nat.le_refl _)]at hv
  have h1:=Int.mul_ediv_add_emod (wz xs) (2 ^ k)
  have h2:wz out=wz xs / 2 ^ k:=by
   apply Int.eq_of_mul_eq_mul_right (a:=2 ^ k) (by omega)
   rw[hv]
   simp only[Option.getD_none,Int.zero_emod,Int.mul_zero]
   rw[Int.mul_comm (wz xs / 2 ^ k)]
   omega
  exact pV dO ho h2
 repeat'(first|refine zg ?_|(refine zc ?_ ?_<;>intro hc<;>try simp only[NM]at hc)|(refine AW.ret (pM ?_);simp -dsimp (disch:=try exact zo)only[go_sem,ei,hk64,a5t,hor]<;>try (refine⟨_,rfl,?_⟩;simp -dsimp (disch:=try exact zo)only[go_sem]))|refine⟨by omega,?_⟩|(refine zb ?_ ?_<;>intro hg<;>(try rw[hg])<;>try simp only[NM]at hg)|omega|simp -dsimp (disch:=try exact zo)only[go_sem,ei,hk64,a5t,hor]|contradiction)
 ·exact AW.stop ⟨⟨(i+1,out.set i (IntKind.u32.wrap ((xs.getD i 0+xs.getD (i+1) 0*4294967296) / 2 ^ k))),by dsimp only;omega,dO.set (sP _),by simpa using ho,step _ rfl (by omega)⟩,(aH (by refine⟨?_,?_,?_,?_⟩<;>simp -dsimp (disch:=try exact zo)only[go_sem,ZC])),by dsimp only;omega⟩
 ·exact AW.stop ⟨⟨(i+1,out.set i (IntKind.u32.wrap (xs.getD i 0 / 2 ^ k))),by dsimp only;omega,dO.set (sP _),by simpa using ho,step _ (by rw[u4 (by omega)];simp) (by omega)⟩,(aH (by refine⟨?_,?_,?_,?_⟩<;>simp -dsimp (disch:=try exact zo)only[go_sem,ZC])),by dsimp only;omega⟩
 ·rw[← fin (by omega)]
end Go.Proofs.Vx
