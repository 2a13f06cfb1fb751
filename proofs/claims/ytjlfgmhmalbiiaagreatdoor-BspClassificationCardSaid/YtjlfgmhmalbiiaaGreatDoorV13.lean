import Derived.Test.YtjlfgmhmalbiiaaGreatDoorV12
set_option linter.all false
set_option maxHeartbeats 40000000
namespace Go.Proofs.Vx
open Go Go.Sx Go.Proofs Tryz
attribute [local irreducible] fnT CallOK CallFr AW aO callV aP aN aM aQ gcaseP hid
theorem c258 (A V C ds : List Int) (q : Int) (m : Nat) (hV : V.length = ds.length + 1) (hm : m = A.length + (V.length + C.length)) (hn : m < 1099511627776) (dV : Dig V) (dd : Dig ds) (hq : 0 ≤ q ∧ q < 4294967296) (hqv : (q - 1) * wz ds ≤ wz V) :
  CallOK prog 258 [.ref 0 A.length V.length m,.sl (aJ .u32 ds),.lit (.int .u32 q)] [(0,.vec 1 (aJ .u32 (A++(V++C))))] (.lit (.bool (decide (wz V<q*wz ds))))
   [(0,.vec 1 (aJ .u32 (A++(dgp V.length (if q*wz ds≤wz V then wz V - q*wz ds else wz V - (q - 1)*wz ds).toNat++C))))]:=by
 refine e9 func258 rfl 93 rfl rfl (by simp) (.lit _) (by simp only[List.mem_singleton,forall_eq];exact⟨by simp,kG _ _⟩) [.tmp 6] (congrArg Array.toList results258) ?_
 simp only[aD,Nat.reduceAdd]
 repeat'(first|refine zg ?_|(refine zc ?_ ?_<;>intro hc<;>try simp only[NM]at hc)|refine zr ?_|refine⟨by omega,?_⟩|(refine zb ?_ ?_<;>intro hg<;>(try rw[hg])<;>try simp only[NM]at hg)|omega|simp -dsimp (disch:=try exact zo)only[go_sem,jO,mB]|contradiction|rfl)
 refine AW.loop (fun z:{p:Nat × List Int × Int × Int // p.1≤ds.length∧Dig p.2.1∧p.2.1.length=V.length∧(0≤p.2.2.1∧p.2.2.1<4294967296)∧(0≤p.2.2.2∧p.2.2.2≤1)∧(∀ j,p.1≤j→p.2.1.getD j 0=V.getD j 0)∧wz (p.2.1.take p.1)=wz (V.take p.1) - q*wz (ds.take p.1)+4294967296 ^ p.1*(p.2.2.1+p.2.2.2)}=>⟨[(17,.lit (.int .i64 z.1.1)),(16,.lit (.int .i64 ds.length)),(15,.sl (aJ .u32 ds)),(8,.lit (.int .u32 z.1.2.2.2)),(7,.lit (.int .u64 z.1.2.2.1)),(0,.ref 0 A.length V.length m),(1,.sl (aJ .u32 ds)),(2,.lit (.int .u32 q))],[(0,.vec 1 (aJ .u32 (A++(z.1.2.1++C))))],14⟩) (fun z=>ds.length - z.1.1) ⟨(0,V,0,0),Nat.zero_le _,dV,rfl,⟨Int.le_refl 0,by simp⟩,⟨Int.le_refl 0,by simp⟩,fun _ _=>rfl,by simp[wz]⟩ (aH (by refine⟨?_,?_,?_,?_⟩<;>simp -dsimp (disch:=try exact zo)only[go_sem,ZC])) ?_
 rintro⟨⟨i,W,c,b⟩,hi,dW,hW,hc1,hb1,hsame,hv⟩
 dsimp only at hi dW hW hc1 hb1 hsame hv ⊢
 have dwi:=dW.getD i
 have ddi:=dd.getD i
 have hpr:0≤ds.getD i 0*q∧ds.getD i 0*q≤18446744065119617025:=by
  have h1:=Int.mul_nonneg ddi.1 hq.1
  have h2:=Int.mul_le_mul (show ds.getD i 0≤4294967295 by omega) (show q≤4294967295 by omega) hq.1 (by decide)
  omega
 have hwr:=sP (ds.getD i 0*q+c)
 have dwn:=dW.getD ds.length
 have step : i < ds.length → ∀ u b' c', u = (W.getD i 0 - IntKind.u32.wrap (ds.getD i 0 * q + c) - b) % 4294967296 → b' = (if W.getD i 0 < IntKind.u32.wrap (ds.getD i 0 * q + c) + b then (1 : Int) else 0) → c' = (ds.getD i 0 * q + c) / 4294967296 →
   (0≤u∧u<4294967296)∧(0≤b'∧b'≤1)∧(0≤c'∧c'<4294967296)∧wz ((W.set i u).take (i+1))=wz (V.take (i+1)) - q*wz (ds.take (i+1))+4294967296 ^ (i+1)*(c'+b'):=by
  intro hlt u b' c' hu hb' hc'
  have e1:u=W.getD i 0 - IntKind.u32.wrap (ds.getD i 0*q+c) - b+4294967296*b':=by rw[hu,hb'];split<;>omega
  have e2:=Int.mul_ediv_add_emod (ds.getD i 0*q+c) 4294967296
  refine⟨by omega,by rw[hb'];split<;>omega,by omega,?_⟩
  rw[jI (by omega),hv,cO V,cO ds,Int.pow_succ,e1,hsame i (Nat.le_refl _),g7,hc']
  grind
 have fin : ds.length ≤ i → ∀ u b', u = (W.getD ds.length 0 - c - b) % 4294967296 → b' = (if W.getD ds.length 0 < c + b then (1 : Int) else 0) →
   Dig (W.set ds.length u)∧(0≤b'∧b'≤1)∧wz (W.set ds.length u)=wz V - q*wz ds+4294967296 ^ V.length*b':=by
  intro hge u b' hu hb'
  obtain rfl:i=ds.length:=by omega
  have e1:u=W.getD ds.length 0 - c - b+4294967296*b':=by rw[hu,hb'];split<;>omega
  refine⟨dW.set (by omega),by rw[hb'];split<;>omega,?_⟩
  have e2:=jI (xs:=W) (i:=ds.length) (by omega) u
  rw[c7 (xs:=W.set ds.length u) (by simp;omega)]at e2
  have e3:=cO V ds.length
  rw[c7 (by omega)]at e3
  rw[c7 (Nat.le_refl _)]at hv
  rw[e2,hv,e3,hV,Int.pow_succ,e1,hsame _ (Nat.le_refl _)]
  grind
 have hvB:=jC dV
 have hd0:=dK dd
 repeat'(first|refine zg ?_|(refine zc ?_ ?_<;>intro hc<;>try simp only[NM]at hc)|refine zr ?_|(refine AW.ret (b6 ?_ ?_)<;>simp -dsimp (disch:=try exact zo)only[go_sem,jO,mB])|(refine zf (c196 _ _ _ (by omega) (by omega) (by omega)) ?_)|(refine zf (c194 _ _ _ (by omega) (by omega) (by omega)) ?_)|refine⟨by omega,?_⟩|(refine zb ?_ ?_<;>intro hg<;>(try rw[hg])<;>try simp only[NM]at hg)|omega|simp -dsimp (disch:=try exact zo)only[go_sem,jO,mB]|contradiction|rfl)
 ·obtain⟨s1,s2,s3,s4⟩:=step (by omega) _ _ _ rfl rfl rfl
  exact AW.stop ⟨⟨(i+1,W.set i ((W.getD i 0 - IntKind.u32.wrap (ds.getD i 0*q+c) - b) % 4294967296),(ds.getD i 0*q+c) / 4294967296,if W.getD i 0<IntKind.u32.wrap (ds.getD i 0*q+c)+b then 1 else 0),by dsimp only;omega,dW.set s1,by simpa using hW,s3,s2,fun j hj=>by dsimp only at hj ⊢;rw[tX (by omega)];exact hsame j (by omega),s4⟩,(aH (by refine⟨?_,?_,?_,?_⟩<;>simp -dsimp (disch:=try exact zo)only[go_sem,ZC])),by dsimp only;omega⟩
 ·obtain⟨f1,f2,f3⟩:=fin (by omega) _ _ rfl rfl
  rw[hc,Int.mul_zero]at f3
  have f4:=dK f1
  have f5:¬ wz V<q*wz ds:=by omega
  simp only[f5,decide_false]
 ·obtain⟨f1,f2,f3⟩:=fin (by omega) _ _ rfl rfl
  rw[hc,Int.mul_zero]at f3
  have f4:=dK f1
  rw[if_pos (by omega),← pV f1 (by simpa using hW) (by omega)]
 ·obtain⟨f1,f2,f3⟩:=fin (by omega) _ _ rfl rfl
  have hb1:(if W.getD ds.length 0<c+b then (1:Int)else 0)=1:=by omega
  rw[hb1,Int.mul_one]at f3
  have hY:(W.set ds.length ((W.getD ds.length 0 - c - b) % 4294967296)).length=V.length:=by simpa using hW
  generalize W.set ds.length ((W.getD ds.length 0 - c - b) % 4294967296)=Y at *
  have f4:=jC f1
  rw[hY]at f4
  have f5:wz V<q*wz ds:=by omega
  have f6:(q - 1)*wz ds=q*wz ds - wz ds:=by grind
  simp only[f5,decide_true,show ¬ q*wz ds≤wz V by omega,if_false]
  clear hv hsame step fin hpr hwr
  refine AW.loop (fun z:{p:Nat × List Int × Int // p.1≤ds.length∧Dig p.2.1∧p.2.1.length=V.length∧(0≤p.2.2∧p.2.2≤1)∧(∀ j,p.1≤j→p.2.1.getD j 0=Y.getD j 0)∧wz (p.2.1.take p.1)+4294967296 ^ p.1*p.2.2=wz (Y.take p.1)+wz (ds.take p.1)}=>⟨[(66,.lit (.int .i64 z.1.1)),(65,.lit (.int .i64 ds.length)),(64,.sl (aJ .u32 ds)),(12,.lit (.int .u32 z.1.2.2)),(0,.ref 0 A.length V.length m),(1,.sl (aJ .u32 ds))],[(0,.vec 1 (aJ .u32 (A++(z.1.2.1++C))))],39⟩) (fun z=>ds.length - z.1.1) ⟨(0,Y,0),Nat.zero_le _,f1,hY,⟨Int.le_refl 0,by simp⟩,fun _ _=>rfl,by simp[wz]⟩ (aH (by refine⟨?_,?_,?_,?_⟩<;>simp -dsimp (disch:=try exact zo)only[go_sem,ZC])) ?_
  rintro⟨⟨i,Z,c⟩,hi,dZ,hZ,hc1,hsame,hv⟩
  dsimp only at hi dZ hZ hc1 hsame hv ⊢
  have dzi:=dZ.getD i
  have ddi:=dd.getD i
  have dzn:=dZ.getD ds.length
  have step:i<ds.length→∀ u c',u=(Z.getD i 0+ds.getD i 0+c) % 4294967296→c'=(Z.getD i 0+ds.getD i 0+c) / 4294967296→(0≤u∧u<4294967296)∧(0≤c'∧c'≤1)∧wz ((Z.set i u).take (i+1))+4294967296 ^ (i+1)*c'=wz (Y.take (i+1))+wz (ds.take (i+1)):=by
   intro hlt u c' hu hc'
   have e2:=Int.mul_ediv_add_emod (Z.getD i 0+ds.getD i 0+c) 4294967296
   refine⟨by omega,by omega,?_⟩
   rw[jI (by omega),cO Y,cO ds,Int.pow_succ,hu,hc',← hsame i (Nat.le_refl _)]
   grind
  have fin:ds.length≤i→∀ u,u=IntKind.u32.wrap (Z.getD ds.length 0+c)→Z.set ds.length u=dgp V.length (wz V - (q - 1)*wz ds).toNat:=by
   intro hge u hu
   obtain rfl:i=ds.length:=by omega
   have e2:=jI (xs:=Z) (i:=ds.length) (by omega) u
   rw[c7 (xs:=Z.set ds.length u) (by simp;omega)]at e2
   have e3:=cO Y ds.length
   rw[c7 (by omega),← hsame _ (Nat.le_refl _)]at e3
   rw[c7 (Nat.le_refl _)]at hv
   have hlt:=jC (dZ.take ds.length)
   have hl:(Z.take ds.length).length=ds.length:=by simp;omega
   rw[hl]at hlt
   have hnn:=dK (dZ.take ds.length)
   rw[hV,Int.pow_succ]at f3
   have hp:(0:Int)<4294967296 ^ ds.length:=Int.pow_pos (by decide)
   have htot:wz (Z.take ds.length)+4294967296 ^ ds.length*(Z.getD ds.length 0+c)=wz V - (q - 1)*wz ds+4294967296 ^ ds.length*4294967296:=by grind
   have ht:Z.getD ds.length 0+c=4294967296:=by
    have h1:¬ Z.getD ds.length 0+c≤4294967295:=by
     intro hle
     have:=Int.mul_le_mul_of_nonneg_left hle (Int.le_of_lt hp)
     grind
    omega
   have hu0:u=0:=by rw[hu,ht];decide
   apply pV (dZ.set (by omega)) (by simpa using hZ)
   rw[e2,hu0]
   rw[ht]at htot
   omega
  repeat'(first|refine zg ?_|(refine zc ?_ ?_<;>intro hc<;>try simp only[NM]at hc)|refine zr ?_|(refine AW.ret (b6 ?_ ?_)<;>simp -dsimp (disch:=try exact zo)only[go_sem,jO,mB])|(refine zf (c196 _ _ _ (by omega) (by omega) (by omega)) ?_)|(refine zf (c194 _ _ _ (by omega) (by omega) (by omega)) ?_)|refine⟨by omega,?_⟩|(refine zb ?_ ?_<;>intro hg<;>(try rw[hg])<;>try simp only[NM]at hg)|omega|simp -dsimp (disch:=try exact zo)only[go_sem,jO,mB]|contradiction|rfl)
  ·obtain⟨s1,s2,s3⟩:=step (by omega) _ _ rfl rfl
   exact AW.stop ⟨⟨(i+1,Z.set i ((Z.getD i 0+ds.getD i 0+c) % 4294967296),(Z.getD i 0+ds.getD i 0+c) / 4294967296),by dsimp only;omega,dZ.set s1,by simpa using hZ,s2,fun j hj=>by dsimp only at hj ⊢;rw[tX (by omega)];exact hsame j (by omega),s3⟩,(aH (by refine⟨?_,?_,?_,?_⟩<;>simp -dsimp (disch:=try exact zo)only[go_sem,ZC])),by dsimp only;omega⟩
  ·rw[fin (by omega) _ rfl]
end Go.Proofs.Vx
namespace Go.Sx
set_option linter.unusedVariables false
def Hid (p:Prop):Prop:=p
theorem Hid.mk {p:Prop} (h:p):Hid p:=h
theorem Hid.out {p:Prop} (h:Hid p):p:=h
structure LDv (E U out:List Int) (M n i:Nat) (T:Int):Prop where
 dU:Dig U
 lU:U.length=M+n
 dO:Dig out
 lO:out.length=M
 tot:wz U+4294967296 ^ (M - i)*(wz (out.drop (M - i))*wz E)=T
 top:wz (U.drop (M - i))<wz E
theorem LDv.window {E U out : List Int} {M n i : Nat} {T : Int} (h : LDv E U out M n i T) (hi : i < M) (lE : E.length = n) (dE : Dig E) :
  ∃ A V C,U=A++(V++C)∧A.length=M - 1 - i∧V.length=n+1∧Dig V∧wz C=0∧wz V<wz E*4294967296:=by
 have hU:U=U.take (M - 1 - i)++((U.drop (M - 1 - i)).take (n+1)++(U.drop (M - 1 - i)).drop (n+1)):=by rw[List.take_append_drop,List.take_append_drop]
 have l1:(U.take (M - 1 - i)).length=M - 1 - i:=by have:=h.lU;simp;omega
 have l2:((U.drop (M - 1 - i)).take (n+1)).length=n+1:=by have:=h.lU;simp;omega
 have dV:Dig ((U.drop (M - 1 - i)).take (n+1)):=(h.dU.drop _).take _
 have dC:Dig ((U.drop (M - 1 - i)).drop (n+1)):=(h.dU.drop _).drop _
 have dD:Dig (U.drop (M - 1 - i)):=h.dU.drop _
 refine⟨_,_,_,hU,l1,l2,dV,?_,?_⟩
 ·have h1:=h.top
  have e1:U.drop (M - i)=(U.drop (M - 1 - i)).drop 1:=by rw[List.drop_drop];congr 1;omega
  rw[e1]at h1
  have e2:=uS ((U.drop (M - 1 - i)).drop 1) n (by have:=h.lU;simp;omega)
  have e3:((U.drop (M - 1 - i)).drop 1).drop n=(U.drop (M - 1 - i)).drop (n+1):=by rw[List.drop_drop];congr 1;omega
  rw[e3]at e2
  have t1:=dK ((dD.drop 1).take n)
  have t2:=dK dC
  have hE:=jC dE
  rw[lE]at hE
  have hp:(0:Int)<4294967296 ^ n:=Int.pow_pos (by decide)
  apply Classical.byContradiction
  intro hne
  have:4294967296 ^ n*1≤4294967296 ^ n*wz ((U.drop (M - 1 - i)).drop (n+1)):=Int.mul_le_mul_of_nonneg_left (by omega) (by omega)
  omega
 ·have h1:=h.top
  have e1:U.drop (M - i)=U.drop (M - 1 - i+1):=by congr 1;omega
  rw[e1]at h1
  have e2:=yH U (M - 1 - i) (by have:=h.lU;omega)
  have e3:=uS (U.drop (M - 1 - i)) (n+1) (by have:=h.lU;simp;omega)
  have t2:=dK dC
  have hp:(0:Int)<4294967296 ^ (n+1):=Int.pow_pos (by decide)
  have t3:=Int.mul_nonneg (Int.le_of_lt hp) t2
  have t4:=h.dU.getD (M - 1 - i)
  omega
theorem LDv.next {E A V C out : List Int} {M n i : Nat} {T q : Int} (h : LDv E (A ++ (V ++ C)) out M n i T) (hi : i < M) (lE : E.length = n) (dE : Dig E) (hA : A.length = M - 1 - i) (hV : V.length = n + 1) (dV : Dig V) (hC : wz C = 0)
  (hq:0≤q∧q<4294967296) (hq1:q*wz E≤wz V) (hq2:wz V<(q+1)*wz E) :
  LDv E (A++(dgp V.length (wz V - q*wz E).toNat++C)) (out.set (M - 1 - i) q) M n (i+1) T:=by
 have hlt:=jC dV
 have hE0:=dK dE
 have hqE:=Int.mul_nonneg hq.1 hE0
 have w1:wz (dgp V.length (wz V - q*wz E).toNat)=wz V - q*wz E:=rQ (by omega) (by omega)
 have dN:=kP V.length (wz V - q*wz E).toNat
 have lN:=fP V.length (wz V - q*wz E).toNat
 generalize dgp V.length (wz V - q*wz E).toNat=V' at *
 have dU:=h.dU
 have dA:Dig A:=fun x hx=>dU x (by simp[hx])
 have dC:Dig C:=fun x hx=>dU x (by simp[hx])
 refine⟨dA.append (dN.append dC),?_,h.dO.set hq,by simpa using h.lO,?_,?_⟩
 ·have:=h.lU;simp at this ⊢;omega
 ·have ht:=h.tot
  have e1:M - i=(M - 1 - i)+1:=by omega
  have e2:M - (i+1)=M - 1 - i:=by omega
  rw[e1,Int.pow_succ]at ht
  rw[e2,a0i (by have:=h.lO;omega)]
  rw[oN,oN,hC,hA]at ht ⊢
  rw[w1,lN]
  rw[← ht]
  grind
 ·have e2:M - (i+1)=A.length:=by omega
  rw[e2,List.drop_left,oN,hC,w1]
  have:(q+1)*wz E=q*wz E+wz E:=by grind
  omega
theorem LDv.fin {E U out : List Int} {M n k : Nat} {a b : Int} (h : LDv E U out M n M (a * 2 ^ k)) (lE : E.length = n) (dE : Dig E) (hE : wz E = b * 2 ^ k) (hb : 0 < b) :
  out=dgp M (a / b).toNat∧wz (U.take n) / 2 ^ k=a % b:=by
 have ht:=h.tot
 have htop:=h.top
 rw[Nat.sub_self,Int.pow_zero,List.drop_zero,hE]at ht
 rw[Nat.sub_self,List.drop_zero,hE]at htop
 have hk:(0:Int)<2 ^ k:=Int.pow_pos (by decide)
 have u0:=dK h.dU
 have e1:=uS U n (by have:=h.lU;omega)
 have t1:=dK (h.dU.take n)
 have t2:=dK (h.dU.drop n)
 have hEl:=jC dE
 rw[lE,hE]at hEl
 have hp:(0:Int)<4294967296 ^ n:=Int.pow_pos (by decide)
 have hz:wz (U.drop n)=0:=by
  apply Classical.byContradiction
  intro hne
  have:4294967296 ^ n*1≤4294967296 ^ n*wz (U.drop n):=Int.mul_le_mul_of_nonneg_left (by omega) (by omega)
  omega
 rw[hz,Int.mul_zero,Int.add_zero]at e1
 have e2:wz U=(a - wz out*b)*2 ^ k:=by grind
 have e3:wz U / 2 ^ k=a - wz out*b:=by rw[e2,Int.mul_ediv_cancel _ (by omega)]
 have r0:0≤a - wz out*b:=by rw[← e3];exact Int.ediv_nonneg u0 (by omega)
 have r1:a - wz out*b<b:=by
  rw[e2]at htop
  exact Int.lt_of_mul_lt_mul_right htop (by omega)
 have q1:a / b=wz out:=by
  have:a=(a - wz out*b)+wz out*b:=by omega
  rw[this,Int.add_mul_ediv_right _ _ (by omega),Int.ediv_eq_zero_of_lt r0 r1];omega
 have q2:a % b=a - wz out*b:=by
  have:=Int.mul_ediv_add_emod a b
  rw[q1]at this
  have:b*wz out=wz out*b:=Int.mul_comm _ _
  omega
 refine⟨?_,?_⟩
 ·rw[q1];exact pV h.dO h.lO rfl
 ·rw[← e1,e3,q2]
structure LDq (E V:List Int) (n:Nat) (q r:Int):Prop where
 eq:q*E.getD (n - 1) 0+r=V.getD (n - 1) 0+V.getD n 0*4294967296
 q0:0≤q
 r0:0≤r
 up:wz V<(q+1)*wz E
theorem c2y {E V : List Int} {n : Nat} (lE : E.length = n) (lV : V.length = n + 1) (h2 : 2 ≤ n) (dE : Dig E) (dV : Dig V) (ht : 2147483648 ≤ E.getD (n - 1) 0) (hlt : wz V < wz E * 4294967296) :
  Est (4294967296 ^ (n - 2)) (wz E) (wz V) (E.getD (n - 1) 0) (E.getD (n - 2) 0) (wz (E.take (n - 2))) (V.getD n 0) (V.getD (n - 1) 0) (V.getD (n - 2) 0) (wz (V.take (n - 2))):=by
 have:=c5w (E:=E) (V:=V) (n:=n - 2) (by omega) (by omega) dE dV (by rw[show n - 2+1=n - 1 by omega];exact ht) hlt
 rw[show n - 2+1=n - 1 by omega,show n - 2+2=n by omega]at this
 exact this
theorem b4s {E V : List Int} {n : Nat} (h2 : 2 ≤ n) (e : Est (4294967296 ^ (n - 2)) (wz E) (wz V) (E.getD (n - 1) 0) (E.getD (n - 2) 0) (wz (E.take (n - 2))) (V.getD n 0) (V.getD (n - 1) 0) (V.getD (n - 2) 0) (wz (V.take (n - 2)))) :
  LDq E V n ((V.getD (n - 1) 0+V.getD n 0*4294967296) / E.getD (n - 1) 0) ((V.getD (n - 1) 0+V.getD n 0*4294967296) % E.getD (n - 1) 0):=by
 obtain⟨hP,hD,hN,ht,hd2,hd',hu1,hu0,hu2,hn',hND⟩:=e
 have h1:=Int.mul_ediv_add_emod (V.getD (n - 1) 0+V.getD n 0*4294967296) (E.getD (n - 1) 0)
 have h3:=Int.emod_lt_of_pos (V.getD (n - 1) 0+V.getD n 0*4294967296) (show 0<E.getD (n - 1) 0 by omega)
 have h4:=Int.emod_nonneg (V.getD (n - 1) 0+V.getD n 0*4294967296) (show E.getD (n - 1) 0≠0 by omega)
 have h5:0≤(V.getD (n - 1) 0+V.getD n 0*4294967296) / E.getD (n - 1) 0:=Int.ediv_nonneg (by omega) (by omega)
 generalize (V.getD (n - 1) 0+V.getD n 0*4294967296) / E.getD (n - 1) 0=q at *
 generalize (V.getD (n - 1) 0+V.getD n 0*4294967296) % E.getD (n - 1) 0=r at *
 refine⟨by rw[Int.mul_comm];exact h1,h5,h4,?_⟩
 generalize E.getD (n - 1) 0=t at *
 generalize V.getD n 0=u1 at *
 generalize V.getD (n - 1) 0=u0 at *
 rw[hN,hD]
 generalize wz (V.take (n - 2))=n' at *
 generalize wz (E.take (n - 2))=d' at *
 generalize V.getD (n - 2) 0=u2 at *
 generalize E.getD (n - 2) 0=d2 at *
 generalize (4294967296:Int) ^ (n - 2)=P at *
 have a1:(u1*4294967296+u0+1)*(4294967296*P)≤((q+1)*t)*(4294967296*P):=Int.mul_le_mul_of_nonneg_right (by grind) (by omega)
 have a2:u2*P≤4294967295*P:=Int.mul_le_mul_of_nonneg_right (by omega) (by omega)
 have a3:0≤(q+1)*(d2*P+d'):=Int.mul_nonneg (by omega) (by have:=Int.mul_nonneg hd2.1 (Int.le_of_lt hP);omega)
 have a4:((u1*4294967296+u0)*4294967296+u2)*P=(u1*4294967296+u0+1)*(4294967296*P) - 4294967296*P+u2*P:=by grind
 have a5:(q+1)*((t*4294967296+d2)*P+d')=((q+1)*t)*(4294967296*P)+(q+1)*(d2*P+d'):=by grind
 omega
theorem LDq.bound {E V:List Int} {n:Nat} {q r:Int} (h:LDq E V n q r) (e:Est (4294967296 ^ (n - 2)) (wz E) (wz V) (E.getD (n - 1) 0) (E.getD (n - 2) 0) (wz (E.take (n - 2))) (V.getD n 0) (V.getD (n - 1) 0) (V.getD (n - 2) 0) (wz (V.take (n - 2)))):q≤4294967297:=by
 have hu:=e.u1_le
 have ht:=e.ht
 have hu0:=e.hu0
 have he:=h.eq
 have hr:=h.r0
 apply Int.not_lt.1
 intro hq
 have:4294967298*E.getD (n - 1) 0≤q*E.getD (n - 1) 0:=Int.mul_le_mul_of_nonneg_right (by omega) (by omega)
 omega
theorem LDq.lower {E V : List Int} {n : Nat} {q r : Int} (h : LDq E V n q r) (e : Est (4294967296 ^ (n - 2)) (wz E) (wz V) (E.getD (n - 1) 0) (E.getD (n - 2) 0) (wz (E.take (n - 2))) (V.getD n 0) (V.getD (n - 1) 0) (V.getD (n - 2) 0) (wz (V.take (n - 2))))
  (hc:4294967295<q∨r*4294967296+V.getD (n - 2) 0<q*E.getD (n - 2) 0):LDq E V n (q - 1) (r+E.getD (n - 1) 0)∧1≤q:=by
 have hl:=e.lower (by rw[h.eq];omega) h.q0 hc
 have hN:0≤wz V:=by
  rw[e.hN]
  have:=Int.mul_nonneg (show 0≤(V.getD n 0*4294967296+V.getD (n - 1) 0)*4294967296+V.getD (n - 2) 0 by have:=e.hu1;have:=e.hu0;have:=e.hu2;omega) (Int.le_of_lt e.hP)
  have:=e.hn'
  omega
 have hq1:1≤q:=by
  apply Int.not_lt.1
  intro hq
  have:q=0:=by have:=h.q0;omega
  subst this
  rw[Int.zero_mul]at hl;omega
 have ht:=e.ht
 refine⟨⟨?_,by omega,by have:=h.r0;omega,?_⟩,hq1⟩
 ·have:=h.eq;grind
 ·rw[show q - 1+1=q by omega];exact hl
theorem LDq.done {E V : List Int} {n : Nat} {q r : Int} (h : LDq E V n q r) (e : Est (4294967296 ^ (n - 2)) (wz E) (wz V) (E.getD (n - 1) 0) (E.getD (n - 2) 0) (wz (E.take (n - 2))) (V.getD n 0) (V.getD (n - 1) 0) (V.getD (n - 2) 0) (wz (V.take (n - 2))))
  (hc:(q≤4294967295∧q*E.getD (n - 2) 0≤r*4294967296+V.getD (n - 2) 0)∨4294967295<r):(0≤q∧q≤4294967295)∧(q - 1)*wz E≤wz V∧wz V<(q+1)*wz E:=by
 have hq:q≤4294967295:=by
  rcases hc with hc|hc
  ·exact hc.1
  ·have hu:=e.u1_le
   have ht:=e.ht
   have hu0:=e.hu0
   have he:=h.eq
   apply Int.not_lt.1
   intro hq
   have:4294967296*E.getD (n - 1) 0≤q*E.getD (n - 1) 0:=Int.mul_le_mul_of_nonneg_right (by omega) (by omega)
   omega
 refine⟨⟨h.q0,hq⟩,e.close (by rw[h.eq];omega) ⟨h.q0,hq⟩ h.r0 ?_,h.up⟩
 rcases hc with hc|hc
 ·exact .inr hc.2
 ·exact .inl hc
end Go.Sx
namespace Go.Proofs.Vx
open Go Go.Sx Go.Proofs Tryz
attribute [local irreducible] fnT CallOK CallFr AW aO callV aP aN aM aQ gcaseP hid
theorem b9u:fnT prog 256=true:=by kernel_rfl
theorem a4o:fnT prog 257=true:=by kernel_rfl
theorem a4n:fnT prog 258=true:=by kernel_rfl
theorem b9t:fnT prog 259=true:=by kernel_rfl
theorem a7n {ob:Nat→AV} {l n m:Nat} {k:IntKind} {xs:List Int} (h:ob l=.vec 1 (aJ k xs)) (hm:m=xs.length) (hn:n≤m) (h0:0<m):bwa ob (.ref l 0 n m)=.sl (aJ k (xs.take n)):=by
 subst hm
 simp only[bwa,bw,h,b5,Nat.zero_add]
 rw[if_pos ⟨trivial,hn,h0⟩,List.drop_zero,a2l]
theorem c240 (us ds : List Int) (h2 : 2 ≤ ds.length) (hl : ds.length ≤ us.length) (hn : us.length < 274877906944) (du : Dig us) (dd : Dig ds) (htop : ds.getD (ds.length - 1) 0 ≠ 0) :
  CallOK prog 240 [.sl (aJ .u32 us),.sl (aJ .u32 ds)] [] (.tup [.sl (aJ .u32 (dgp (us.length+1 - ds.length) (wz us / wz ds).toNat)),.sl (aJ .u32 (dgp ds.length (wz us % wz ds).toNat))]) []:=by
 refine fN func240 rfl 136 rfl rfl (vK (fC _ _) (fC _ _)) [.tmp 4,.tmp 5] (congrArg Array.toList results240) ?_
 simp only[aD,Nat.reduceAdd]
 have hb:=nL (n:=(ds.getD (ds.length - 1) 0).toNat) (k:=32) (by have:=dd.getD (ds.length - 1);omega)
 have hb1:1≤bO (ds.getD (ds.length - 1) 0).toNat:=by
  have:=dd.getD (ds.length - 1)
  rw[o7 (by omega)];omega
 obtain⟨k,hk⟩:∃ k:Nat,(32:Int) - (bO (ds.getD (ds.length - 1) 0).toNat:Int)=(k:Int):=⟨32 - bO (ds.getD (ds.length - 1) 0).toNat,by omega⟩
 have hk31:k≤31:=by omega
 have ek:((ds.length:Int) - 1).toNat=ds.length - 1:=by omega
 have eI:(if (0:Int)>((us.length+1:Nat):Int) - (ds.length:Int)then (0:Int)else ((us.length+1:Nat):Int) - (ds.length:Int))=((us.length+1 - ds.length:Nat):Int):=by rw[if_neg (by omega)];omega
 repeat'(first|refine zg ?_|(refine zc ?_ ?_<;>intro hc<;>try simp only[NM]at hc)|refine zr ?_|(refine callV.flat (.lit (.int .i64 (k:Int))) b9u (hk▸c256 _ (dd.getD _)) rfl rfl ?_)|(refine dJ (.sl (aJ .u32 (dgp (ds.length+1) (wz ds*2 ^ k).toNat))) a4o (CallFr.ok (c257 ds k hk31 (by omega) dd)) (by simp -dsimp (disch:=try exact zo)only[go_sem,aU]) (fC _ _) ?_)|(refine a0y 1 (aJ .u32 (dgp (us.length+1) (wz us*2 ^ k).toNat)) a4o (c257 us k hk31 (by omega) du) (by simp -dsimp (disch:=try exact zo)only[go_sem,aU]) ?_)|refine⟨by omega,?_⟩|(refine zb ?_ ?_<;>intro hg<;>(try rw[hg])<;>try simp only[NM]at hg)|omega|simp -dsimp (disch:=try exact zo)only[go_sem,ek,eI,b8o,ZT,Nat.sub_zero]|contradiction|rfl)
 have nd:=b6w (n:=ds.length - 1) dd (by omega) htop hk
 rw[show ds.length - 1+1=ds.length by omega]at nd
 obtain⟨nd1,nd2,nd3⟩:=nd
 obtain⟨p1,p2⟩:=r8 hk31
 have wE:=rQ (Int.le_of_lt (Int.mul_pos nd1 (by omega))) nd2
 have dE:=kP ds.length (wz ds*2 ^ k).toNat
 have lE:=fP ds.length (wz ds*2 ^ k).toNat
 have hus:=jC du
 have hus0:=dK du
 have hU:wz us*2 ^ k<4294967296 ^ (us.length+1):=by
  rw[Int.pow_succ]
  have h1:=Int.mul_le_mul_of_nonneg_left p2 hus0
  omega
 have wU:=rQ (Int.mul_nonneg hus0 (by omega)) hU
 have dU:=kP (us.length+1) (wz us*2 ^ k).toNat
 have lU:=fP (us.length+1) (wz us*2 ^ k).toNat
 generalize dgp ds.length (wz ds*2 ^ k).toNat=E at *
 generalize dgp (us.length+1) (wz us*2 ^ k).toNat=U0 at *
 generalize hM:us.length+1 - ds.length=M at *
 have hEtop:4294967296 ^ (ds.length - 1)*2147483648≤wz E:=by
  have e:=cO E (ds.length - 1)
  rw[c7 (by omega)]at e
  have t:=dK (dE.take (ds.length - 1))
  have:=Int.mul_le_mul_of_nonneg_left nd3 (show (0:Int)≤4294967296 ^ (ds.length - 1)from Int.le_of_lt (Int.pow_pos (by decide)))
  omega
 have hstart:wz (U0.drop M)<wz E:=by
  have e:=uS U0 M (by omega)
  have t:=dK (dU.take M)
  have hpM:(0:Int)<4294967296 ^ M:=Int.pow_pos (by decide)
  have hpL:(4294967296:Int) ^ us.length=4294967296 ^ M*4294967296 ^ (ds.length - 1):=by rw[← Int.pow_add];congr 1;omega
  apply Int.not_le.1
  intro hge
  have h1:=Int.mul_le_mul_of_nonneg_left (Int.le_trans hEtop hge) (Int.le_of_lt hpM)
  rw[← Int.mul_assoc,← hpL]at h1
  have h2:=Int.mul_le_mul_of_nonneg_left p2 hus0
  omega
 have hfin:∀ U out,LDv E U out M ds.length M (wz us*2 ^ k)→out=dgp M (wz us / wz ds).toNat∧wz (U.take ds.length) / 2 ^ k=wz us % wz ds:=fun U out h=>h.fin lE dE wE nd1
 have hL0:Hid (LDv E U0 (List.replicate M 0) M ds.length 0 (wz us*2 ^ k)):=⟨dU,by omega,Dig.rep _,by simp,by simp[wz,wU],by simpa using hstart⟩
 clear hstart wU dU lU hU hus hus0 eI hb hb1 hk nd1 nd2 htop wE hEtop p1 p2
 refine AW.loop (fun z:{p:Nat × List Int × List Int // p.1≤M∧Hid (LDv E p.2.1 p.2.2 M ds.length p.1 (wz us*2 ^ k))}=>⟨[(46,.lit (.int .i64 z.1.1)),(45,.lit (.int .i64 M)),(9,.ref 43 0 M M),(8,.lit (.int .u32 (E.getD (ds.length - 1) 0))),(7,.lit (.int .i64 ds.length)),(0,.ref 27 0 (us.length+1) (us.length+1)),(1,.sl (aJ .u32 E)),(6,.lit (.int .i64 k))],[(43,.vec 1 (aJ .u32 z.1.2.2)),(27,.vec 1 (aJ .u32 z.1.2.1))],48⟩) (fun z=>M - z.1.1) ⟨(0,U0,List.replicate M 0),Nat.zero_le _,hL0⟩ (aH (by refine⟨?_,?_,?_,?_⟩<;>simp -dsimp (disch:=try exact zo)only[go_sem,ZC])) ?_
 rintro⟨⟨i,U,out⟩,hi,hv⟩
 dsimp only at hi hv ⊢
 clear hL0
 have lO:=hv.out.lO
 by_cases hlt:i<M
 ·obtain⟨A,V,C,hUU,lA,lV,dV,wC,hVB⟩:=hv.out.window hlt lE dE
  subst hUU
  have lUU:=hv.out.lU
  have est:=Hid.mk (c2y lE lV h2 dE dV nd3 hVB)
  have st:=Hid.mk (b4s h2 est.out)
  have stq:Hid (IntKind.u64.wrap ((V.getD (ds.length - 1) 0+V.getD ds.length 0*4294967296) / E.getD (ds.length - 1) 0)=(V.getD (ds.length - 1) 0+V.getD ds.length 0*4294967296) / E.getD (ds.length - 1) 0):=vD st.out.q0 (Int.lt_of_le_of_lt (st.out.bound est.out) (by decide))
  clear hVB hfin
  have e4:((M:Int) - 1 - i).toNat=A.length:=by omega
  have e1:((M:Int) - 1 - i+ds.length).toNat=A.length+ds.length:=by omega
  have e2:((M:Int) - 1 - i+ds.length - 1).toNat=A.length+(ds.length - 1):=by omega
  have e3:((M:Int) - 1 - i+ds.length - 2).toNat=A.length+(ds.length - 2):=by omega
  have e5:((M:Int) - 1 - i+ds.length+1).toNat - A.length=V.length:=by omega
  have e6:((ds.length:Int) - 2).toNat=ds.length - 2:=by omega
  have hor:IntKind.u64.wrap ((BitVec.ofInt IntKind.u64.bits (V.getD ds.length 0*4294967296) ||| BitVec.ofInt IntKind.u64.bits (V.getD (ds.length - 1) 0)).toNat:Int)=V.getD (ds.length - 1) 0+V.getD ds.length 0*4294967296:=by
   rw[BitVec.or_comm];exact zS (dV.getD (ds.length - 1)) (dV.getD ds.length)
  have t0:=dE.getD (ds.length - 1)
  simp only[List.length_append]at lUU
  have v0:=dV.getD ds.length
  have v1:=dV.getD (ds.length - 1)
  repeat'(first|refine AW.seq ?_|refine i5 ?_|refine AW.block (id:=1) ?_|refine AW.blk ?_|refine AW.skip ?_|refine AW.exit rfl ?_|refine c1a (by kernel_rfl) ?_|refine a4l ymix ?_|(refine zc ?_ ?_<;>intro hc<;>try simp only[NM]at hc)|refine zr ?_|refine⟨by omega,?_⟩|(refine zb ?_ ?_<;>intro hg<;>(try rw[hg])<;>try simp only[NM]at hg)|omega|simp -dsimp (disch:=try exact zo)only[go_sem,e4,e1,e2,e3,e5,e6,jO,mB,hor]|contradiction|rfl)
  refine a6e (fun z:{q:Int // (0≤q∧q≤4294967295)∧Hid ((q - 1)*wz E≤wz V∧wz V<(q+1)*wz E)}=>⟨[(46,.lit (.int .i64 i)),(45,.lit (.int .i64 M)),(9,.ref 43 0 M M),(8,.lit (.int .u32 (E.getD (ds.length - 1) 0))),(7,.lit (.int .i64 ds.length)),(0,.ref 27 0 (us.length+1) (us.length+1)),(1,.sl (aJ .u32 E)),(6,.lit (.int .i64 k)),(10,.lit (.int .i64 i)),(11,.lit (.int .i64 (M - 1 - i))),(13,.lit (.int .u64 z.1))],[(43,.vec 1 (aJ .u32 out)),(27,.vec 1 (aJ .u32 (A++(V++C))))],85⟩) ?_ ?_
  ·refine AW.block ?_
   have hrem:=Int.emod_lt_of_pos (V.getD (ds.length - 1) 0+V.getD ds.length 0*4294967296) (show 0<E.getD (ds.length - 1) 0 by omega)
   have hrem0:=st.out.r0
   have st0:=st.out.q0
   have st1:=st.out.bound est.out
   rw[stq.out]
   clear stq hor
   generalize (V.getD (ds.length - 1) 0+V.getD ds.length 0*4294967296) / E.getD (ds.length - 1) 0=q0 at *
   generalize (V.getD (ds.length - 1) 0+V.getD ds.length 0*4294967296) % E.getD (ds.length - 1) 0=r0 at *
   refine AW.loop (fun z:{p:Int × Int // Hid (LDq E V ds.length p.1 p.2)∧(0≤p.1∧p.1≤4294967297)∧(0≤p.2∧p.2≤4294967295)}=>⟨[(46,.lit (.int .i64 i)),(45,.lit (.int .i64 M)),(9,.ref 43 0 M M),(8,.lit (.int .u32 (E.getD (ds.length - 1) 0))),(7,.lit (.int .i64 ds.length)),(0,.ref 27 0 (us.length+1) (us.length+1)),(1,.sl (aJ .u32 E)),(6,.lit (.int .i64 k)),(10,.lit (.int .i64 i)),(11,.lit (.int .i64 (M - 1 - i))),(13,.lit (.int .u64 z.1.1)),(14,.lit (.int .u64 z.1.2))],[(43,.vec 1 (aJ .u32 out)),(27,.vec 1 (aJ .u32 (A++(V++C))))],85⟩) (fun z=>z.1.1.toNat) ⟨(q0,r0),st,⟨st0,st1⟩,⟨hrem0,by omega⟩⟩ (aH (by refine⟨?_,?_,?_,?_⟩<;>simp -dsimp (disch:=try exact zo)only[go_sem,ZC])) ?_
   clear st st0 st1 hrem hrem0 v0 v1
   rintro⟨⟨q,r⟩,hq,hqb,hrb⟩
   dsimp only at hq hqb hrb ⊢
   have hor2:IntKind.u64.wrap ((BitVec.ofInt IntKind.u64.bits (r*4294967296) ||| BitVec.ofInt IntKind.u64.bits (V.getD (ds.length - 2) 0)).toNat:Int)=V.getD (ds.length - 2) 0+r*4294967296:=by
    rw[BitVec.or_comm];exact zS (dV.getD (ds.length - 2)) (by omega)
   have v2:=dV.getD (ds.length - 2)
   have d2:=dE.getD (ds.length - 2)
   by_cases hgt:4294967295<q
   ·have hg:=eq_true hgt
    have low:=hq.out.lower est.out (.inl hgt)
    clear hor2 v2 d2 e1 e2 e3 e4 e5 e6 hgt
    have low2:=low.2
    repeat'(first|refine zg ?_|(refine zc ?_ ?_<;>intro hc<;>try simp only[NM]at hc)|refine zr ?_|refine⟨by omega,?_⟩|(refine zb ?_ ?_<;>intro hg<;>(try rw[hg])<;>try simp only[NM]at hg)|omega|simp -dsimp (disch:=try exact zo)only[go_sem,hg,gt_iff_lt]|contradiction|rfl)
    ·have d:=low.1.done est.out (.inr hc)
     exact AW.stop ⟨⟨q - 1,d.1,d.2⟩,(aH (by refine⟨?_,?_,?_,?_⟩<;>simp -dsimp (disch:=try exact zo)only[go_sem,ZC]))⟩
    ·exact AW.stop ⟨⟨(q - 1,r+E.getD (ds.length - 1) 0),low.1,⟨by dsimp only;omega,by dsimp only;omega⟩,⟨by dsimp only;omega,by dsimp only;omega⟩⟩,(aH (by refine⟨?_,?_,?_,?_⟩<;>simp -dsimp (disch:=try exact zo)only[go_sem,ZC])),by dsimp only;omega⟩
   ·have hg:=eq_false hgt
    have hpr:0≤q*E.getD (ds.length - 2) 0∧q*E.getD (ds.length - 2) 0≤18446744065119617025:=by
     have h1:=Int.mul_nonneg hqb.1 d2.1
     have h2:=Int.mul_le_mul (show q≤4294967295 by omega) (show E.getD (ds.length - 2) 0≤4294967295 by omega) d2.1 (by decide)
     omega
    by_cases hlw:V.getD (ds.length - 2) 0+r*4294967296<q*E.getD (ds.length - 2) 0
    ·have hl:=eq_true hlw
     have low:=hq.out.lower est.out (.inr (by omega))
     obtain⟨low1,low2⟩:=low
     clear hlw e1 e2 e4 e5
     repeat'(first|refine zg ?_|(refine zc ?_ ?_<;>intro hc<;>try simp only[NM]at hc)|refine zr ?_|refine⟨by omega,?_⟩|(refine zb ?_ ?_<;>intro hg<;>(try rw[hg])<;>try simp only[NM]at hg)|omega|simp -dsimp (disch:=try exact zo)only[go_sem,e3,e6,jO,hor2,hg,hl,gt_iff_lt]|contradiction|rfl)
     ·have d:=low1.done est.out (.inr hc)
      exact AW.stop ⟨⟨q - 1,d.1,d.2⟩,(aH (by refine⟨?_,?_,?_,?_⟩<;>simp -dsimp (disch:=try exact zo)only[go_sem,ZC]))⟩
     ·exact AW.stop ⟨⟨(q - 1,r+E.getD (ds.length - 1) 0),low1,⟨by dsimp only;omega,by dsimp only;omega⟩,⟨by dsimp only;omega,by dsimp only;omega⟩⟩,(aH (by refine⟨?_,?_,?_,?_⟩<;>simp -dsimp (disch:=try exact zo)only[go_sem,ZC])),by dsimp only;omega⟩
    ·have hl:=eq_false hlw
     have don:=hq.out.done est.out (.inl ⟨by omega,by omega⟩)
     clear hlw e1 e2 e4 e5
     repeat'(first|refine zg ?_|(refine zc ?_ ?_<;>intro hc<;>try simp only[NM]at hc)|refine zr ?_|refine⟨by omega,?_⟩|(refine zb ?_ ?_<;>intro hg<;>(try rw[hg])<;>try simp only[NM]at hg)|omega|simp -dsimp (disch:=try exact zo)only[go_sem,e3,e6,jO,hor2,hg,hl,gt_iff_lt]|contradiction|rfl)
     exact AW.stop ⟨⟨q,don.1,don.2⟩,(aH (by refine⟨?_,?_,?_,?_⟩<;>simp -dsimp (disch:=try exact zo)only[go_sem,ZC]))⟩
  ·rintro⟨q,hq01,hqv⟩
   dsimp only at hq01 hqv ⊢
   clear st stq hor est v0 v1 t0
   have w0:=dK dV
   have hq1:Hid (wz V<q*wz E→1≤q):=fun h=>by
    apply Int.not_lt.1
    intro hq
    have:q=0:=by omega
    subst this
    rw[Int.zero_mul]at h;omega
   have hsl:us.length+1<274877906945:=by omega
   have hmU:us.length+1=A.length+(V.length+C.length):=by omega
   have hMb:M<274877906945:=by omega
   clear h2 hl hn hi e1 e2 e3 e6 w0 nd3 lUU hM
   by_cases hlw:wz V<q*wz E
   ·have hcT:=eq_true hlw
    have hq1':=hq1.out hlw
    have hif:(if q*wz E≤wz V then wz V - q*wz E else wz V - (q - 1)*wz E)=wz V - (q - 1)*wz E:=if_neg (Int.not_le.2 hlw)
    have L:Hid (LDv E (A++(dgp V.length (wz V - (q - 1)*wz E).toNat++C)) (out.set A.length (q - 1)) M ds.length (i+1) (wz us*2 ^ k)):=by
     rw[lA]
     exact hv.out.next hlt lE dE lA lV dV wC ⟨by omega,by omega⟩ hqv.out.1 (by rw[Int.sub_add_cancel];exact hlw)
    clear hlw hq1 wC hv
    repeat'(first|refine zg ?_|(refine zc ?_ ?_<;>intro hc<;>try simp only[NM]at hc)|refine zr ?_|(refine lR 27 _ _ _ a4n (oM (c258 A V C E q (us.length+1) (by omega) (by omega) (by omega) dV dE (by omega) hqv.out.1) (kG _ _) (kG _ _) (.lit _) (by simp[jE,fC,p7]) 27) rfl (by simp[vY,fC,p7]) (kG _ _) (kG _ _) (.lit _) rfl ?_)|refine⟨by omega,?_⟩|(refine zb ?_ ?_<;>intro hg<;>(try rw[hg])<;>try simp only[NM]at hg)|omega|simp -dsimp (disch:=try exact zo)only[go_sem,e4,e5,jO,mB,hcT,hif]|contradiction|rfl)
    exact AW.stop ⟨⟨(i+1,A++(dgp V.length (wz V - (q - 1)*wz E).toNat++C),out.set A.length (q - 1)),by dsimp only;omega,L⟩,(aH (by refine⟨?_,?_,?_,?_⟩<;>simp -dsimp (disch:=try exact zo)only[go_sem,hif,ZC])),by dsimp only;omega⟩
   ·have hcT:=eq_false hlw
    have hif:(if q*wz E≤wz V then wz V - q*wz E else wz V - (q - 1)*wz E)=wz V - q*wz E:=if_pos (Int.not_lt.1 hlw)
    have L:Hid (LDv E (A++(dgp V.length (wz V - q*wz E).toNat++C)) (out.set A.length q) M ds.length (i+1) (wz us*2 ^ k)):=by
     rw[lA]
     exact hv.out.next hlt lE dE lA lV dV wC ⟨by omega,by omega⟩ (Int.not_lt.1 hlw) hqv.out.2
    clear hlw hq1 wC hv
    repeat'(first|refine zg ?_|(refine zc ?_ ?_<;>intro hc<;>try simp only[NM]at hc)|refine zr ?_|(refine lR 27 _ _ _ a4n (oM (c258 A V C E q (us.length+1) (by omega) (by omega) (by omega) dV dE (by omega) hqv.out.1) (kG _ _) (kG _ _) (.lit _) (by simp[jE,fC,p7]) 27) rfl (by simp[vY,fC,p7]) (kG _ _) (kG _ _) (.lit _) rfl ?_)|refine⟨by omega,?_⟩|(refine zb ?_ ?_<;>intro hg<;>(try rw[hg])<;>try simp only[NM]at hg)|omega|simp -dsimp (disch:=try exact zo)only[go_sem,e4,e5,jO,mB,hcT,hif]|contradiction|rfl)
    exact AW.stop ⟨⟨(i+1,A++(dgp V.length (wz V - q*wz E).toNat++C),out.set A.length q),by dsimp only;omega,L⟩,(aH (by refine⟨?_,?_,?_,?_⟩<;>simp -dsimp (disch:=try exact zo)only[go_sem,hif,ZC])),by dsimp only;omega⟩
 ·have hiM:i=M:=by omega
  subst hiM
  have hf:=Hid.mk (hfin U out hv.out)
  have lUU:=hv.out.lU
  have dUt:=hv.out.dU.take ds.length
  have hds:0<ds.length:=by omega
  clear hfin hv
  repeat'(first|refine zg ?_|(refine zc ?_ ?_<;>intro hc<;>try simp only[NM]at hc)|refine zr ?_|(refine a0y 1 (aJ .u32 (dgp (U.take ds.length).length (wz (U.take ds.length) / 2 ^ k).toNat)) b9t (by rw[List.map_cons,List.map_cons,List.map_nil,a7n (xs:=U) rfl (by omega) (by omega) (by omega)];exact c259 (U.take ds.length) k hk31 (by simp;omega) dUt) (by rw[List.map_cons,List.map_cons,List.map_nil,a7n (xs:=U) rfl (by omega) (by omega) (by omega)];simp[fC,p7,bwa,bw]) ?_)|refine⟨by omega,?_⟩|(refine zb ?_ ?_<;>intro hg<;>(try rw[hg])<;>try simp only[NM]at hg)|omega|simp -dsimp (disch:=try exact zo)only[go_sem,Nat.sub_zero]|contradiction|rfl)
  have lT:(U.take ds.length).length=ds.length:=by simp;omega
  rw[if_pos ⟨by omega,by omega⟩,nK (fP _ _),c7 (by omega),lT,hf.out.2,← hf.out.1]
end Go.Proofs.Vx
