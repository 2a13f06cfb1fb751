import Derived.Test.YtjlfgmhmalbiiaaGreatDoorW14
set_option linter.all false
set_option maxHeartbeats 40000000
open Int renaming mul_le_mul_of_nonneg_left → Aa, mul_le_mul_of_nonneg_right → Ab, mul_nonneg → Ac, le_of_lt → Ad, pow_pos → Ae, emod_lt_of_pos → Af, ediv_nonneg → Ag, not_lt → Ah, emod_nonneg → Ak, mul_ediv_add_emod → Am, natCast_emod → Ar, pow_succ → Au, mul_zero → Aw, add_zero → Ax, mul_comm → Ay, zero_mul → Az, not_le → A7
open List renaming map_cons → Ai, take_append_drop → Al, drop_zero → An, drop_drop → As, replicate → At, map_nil → A4
open Nat renaming gcd_comm → Aj, gcd → Ao, reduceAdd → Ap, gcd_zero_right → Aq, sub_self → Av, sub_zero → A3, pow_succ → A5, gcd_rec → A6, mod_lt → A8
namespace Go.Sx
set_option linter.unusedVariables false
def Hid (p:Prop):Prop:=p
theorem Hid.mk {p:Prop} (h:p):Hid p:=h
theorem Hid.out {p:Prop} (h:Hid p):p:=h
structure LDv (E U out:List Int) (M n i:Nat) (T:Int):Prop where
 dU:Dig U
 lU:U.length=M+n
 dO:Dig out
 lO:out.length=M
 tot:wz U+4294967296 ^ (M - i)*(wz (out.drop (M - i))*wz E)=T
 top:wz (U.drop (M - i))<wz E
theorem LDv.window {E U out : List Int} {M n i : Nat} {T : Int} (h : LDv E U out M n i T) (hi : i < M) (lE : E.length = n) (dE : Dig E) :
  ∃ A V C,U=A++(V++C)∧A.length=M - 1 - i∧V.length=n+1∧Dig V∧wz C=0∧wz V<wz E*4294967296:=by
 have hU:U=U.take (M - 1 - i)++((U.drop (M - 1 - i)).take (n+1)++(U.drop (M - 1 - i)).drop (n+1)):=by rw[Al,Al]
 have l1:(U.take (M - 1 - i)).length=M - 1 - i:=by have:=h.lU;simp;omega
 have l2:((U.drop (M - 1 - i)).take (n+1)).length=n+1:=by have:=h.lU;simp;omega
 have dV:Dig ((U.drop (M - 1 - i)).take (n+1)):=(h.dU.drop _).take _
 have dC:Dig ((U.drop (M - 1 - i)).drop (n+1)):=(h.dU.drop _).drop _
 have dD:Dig (U.drop (M - 1 - i)):=h.dU.drop _
 refine⟨_,_,_,hU,l1,l2,dV,?_,?_⟩
 ·have h1:=h.top
  have e1:U.drop (M - i)=(U.drop (M - 1 - i)).drop 1:=by rw[As];congr 1;omega
  rw[e1]at h1
  have e2:=wB ((U.drop (M - 1 - i)).drop 1) n (by have:=h.lU;simp;omega)
  have e3:((U.drop (M - 1 - i)).drop 1).drop n=(U.drop (M - 1 - i)).drop (n+1):=by rw[As];congr 1;omega
  rw[e3]at e2
  have t1:=dT ((dD.drop 1).take n)
  have t2:=dT dC
  have hE:=jL dE
  rw[lE]at hE
  have hp:(0:Int)<4294967296 ^ n:=Ae (by decide)
  apply Classical.byContradiction
  intro hne
  have:4294967296 ^ n*1≤4294967296 ^ n*wz ((U.drop (M - 1 - i)).drop (n+1)):=Aa (by omega) (by omega)
  omega
 ·have h1:=h.top
  have e1:U.drop (M - i)=U.drop (M - 1 - i+1):=by congr 1;omega
  rw[e1]at h1
  have e2:=a0b U (M - 1 - i) (by have:=h.lU;omega)
  have e3:=wB (U.drop (M - 1 - i)) (n+1) (by have:=h.lU;simp;omega)
  have t2:=dT dC
  have hp:(0:Int)<4294967296 ^ (n+1):=Ae (by decide)
  have t3:=Ac (Ad hp) t2
  have t4:=h.dU.getD (M - 1 - i)
  omega
theorem LDv.next {E A V C out : List Int} {M n i : Nat} {T q : Int} (h : LDv E (A ++ (V ++ C)) out M n i T) (hi : i < M) (lE : E.length = n) (dE : Dig E) (hA : A.length = M - 1 - i) (hV : V.length = n + 1) (dV : Dig V) (hC : wz C = 0)
  (hq:0≤q∧q<4294967296) (hq1:q*wz E≤wz V) (hq2:wz V<(q+1)*wz E) :
  LDv E (A++(dgp V.length (wz V - q*wz E).toNat++C)) (out.set (M - 1 - i) q) M n (i+1) T:=by
 have hlt:=jL dV
 have hE0:=dT dE
 have hqE:=Ac hq.1 hE0
 have w1:wz (dgp V.length (wz V - q*wz E).toNat)=wz V - q*wz E:=sP (by omega) (by omega)
 have dN:=lH V.length (wz V - q*wz E).toNat
 have lN:=fX V.length (wz V - q*wz E).toNat
 generalize dgp V.length (wz V - q*wz E).toNat=V' at *
 have dU:=h.dU
 have dA:Dig A:=fun x hx=>dU x (by simp[hx])
 have dC:Dig C:=fun x hx=>dU x (by simp[hx])
 refine⟨dA.append (dN.append dC),?_,h.dO.set hq,by simpa using h.lO,?_,?_⟩
 ·have:=h.lU;simp at this ⊢;omega
 ·have ht:=h.tot
  have e1:M - i=(M - 1 - i)+1:=by omega
  have e2:M - (i+1)=M - 1 - i:=by omega
  rw[e1,Au]at ht
  rw[e2,a2q (by have:=h.lO;omega)]
  rw[pH,pH,hC,hA]at ht ⊢
  rw[w1,lN]
  rw[← ht]
  grind
 ·have e2:M - (i+1)=A.length:=by omega
  rw[e2,List.drop_left,pH,hC,w1]
  have:(q+1)*wz E=q*wz E+wz E:=by grind
  omega
theorem LDv.fin {E U out : List Int} {M n k : Nat} {a b : Int} (h : LDv E U out M n M (a * 2 ^ k)) (lE : E.length = n) (dE : Dig E) (hE : wz E = b * 2 ^ k) (hb : 0 < b) :
  out=dgp M (a / b).toNat∧wz (U.take n) / 2 ^ k=a % b:=by
 have ht:=h.tot
 have htop:=h.top
 rw[Av,Int.pow_zero,An,hE]at ht
 rw[Av,An,hE]at htop
 have hk:(0:Int)<2 ^ k:=Ae (by decide)
 have u0:=dT h.dU
 have e1:=wB U n (by have:=h.lU;omega)
 have t1:=dT (h.dU.take n)
 have t2:=dT (h.dU.drop n)
 have hEl:=jL dE
 rw[lE,hE]at hEl
 have hp:(0:Int)<4294967296 ^ n:=Ae (by decide)
 have hz:wz (U.drop n)=0:=by
  apply Classical.byContradiction
  intro hne
  have:4294967296 ^ n*1≤4294967296 ^ n*wz (U.drop n):=Aa (by omega) (by omega)
  omega
 rw[hz,Aw,Ax]at e1
 have e2:wz U=(a - wz out*b)*2 ^ k:=by grind
 have e3:wz U / 2 ^ k=a - wz out*b:=by rw[e2,Int.mul_ediv_cancel _ (by omega)]
 have r0:0≤a - wz out*b:=by rw[← e3];exact Ag u0 (by omega)
 have r1:a - wz out*b<b:=by
  rw[e2]at htop
  exact Int.lt_of_mul_lt_mul_right htop (by omega)
 have q1:a / b=wz out:=by
  have:a=(a - wz out*b)+wz out*b:=by omega
  rw[this,Int.add_mul_ediv_right _ _ (by omega),Int.ediv_eq_zero_of_lt r0 r1];omega
 have q2:a % b=a - wz out*b:=by
  have:=Am a b
  rw[q1]at this
  have:b*wz out=wz out*b:=Ay _ _
  omega
 refine⟨?_,?_⟩
 ·rw[q1];exact qT h.dO h.lO rfl
 ·rw[← e1,e3,q2]
structure LDq (E V:List Int) (n:Nat) (q r:Int):Prop where
 eq:q*E.getD (n - 1) 0+r=V.getD (n - 1) 0+V.getD n 0*4294967296
 q0:0≤q
 r0:0≤r
 up:wz V<(q+1)*wz E
theorem c7e {E V : List Int} {n : Nat} (lE : E.length = n) (lV : V.length = n + 1) (h2 : 2 ≤ n) (dE : Dig E) (dV : Dig V) (ht : 2147483648 ≤ E.getD (n - 1) 0) (hlt : wz V < wz E * 4294967296) :
  Est (4294967296 ^ (n - 2)) (wz E) (wz V) (E.getD (n - 1) 0) (E.getD (n - 2) 0) (wz (E.take (n - 2))) (V.getD n 0) (V.getD (n - 1) 0) (V.getD (n - 2) 0) (wz (V.take (n - 2))):=by
 have:=d0f (E:=E) (V:=V) (n:=n - 2) (by omega) (by omega) dE dV (by rw[show n - 2+1=n - 1 by omega];exact ht) hlt
 rw[show n - 2+1=n - 1 by omega,show n - 2+2=n by omega]at this
 exact this
theorem b8b {E V : List Int} {n : Nat} (h2 : 2 ≤ n) (e : Est (4294967296 ^ (n - 2)) (wz E) (wz V) (E.getD (n - 1) 0) (E.getD (n - 2) 0) (wz (E.take (n - 2))) (V.getD n 0) (V.getD (n - 1) 0) (V.getD (n - 2) 0) (wz (V.take (n - 2)))) :
  LDq E V n ((V.getD (n - 1) 0+V.getD n 0*4294967296) / E.getD (n - 1) 0) ((V.getD (n - 1) 0+V.getD n 0*4294967296) % E.getD (n - 1) 0):=by
 obtain⟨hP,hD,hN,ht,hd2,hd',hu1,hu0,hu2,hn',hND⟩:=e
 have h1:=Am (V.getD (n - 1) 0+V.getD n 0*4294967296) (E.getD (n - 1) 0)
 have h3:=Af (V.getD (n - 1) 0+V.getD n 0*4294967296) (show 0<E.getD (n - 1) 0 by omega)
 have h4:=Ak (V.getD (n - 1) 0+V.getD n 0*4294967296) (show E.getD (n - 1) 0≠0 by omega)
 have h5:0≤(V.getD (n - 1) 0+V.getD n 0*4294967296) / E.getD (n - 1) 0:=Ag (by omega) (by omega)
 generalize (V.getD (n - 1) 0+V.getD n 0*4294967296) / E.getD (n - 1) 0=q at *
 generalize (V.getD (n - 1) 0+V.getD n 0*4294967296) % E.getD (n - 1) 0=r at *
 refine⟨by rw[Ay];exact h1,h5,h4,?_⟩
 generalize E.getD (n - 1) 0=t at *
 generalize V.getD n 0=u1 at *
 generalize V.getD (n - 1) 0=u0 at *
 rw[hN,hD]
 generalize wz (V.take (n - 2))=n' at *
 generalize wz (E.take (n - 2))=d' at *
 generalize V.getD (n - 2) 0=u2 at *
 generalize E.getD (n - 2) 0=d2 at *
 generalize (4294967296:Int) ^ (n - 2)=P at *
 have a1:(u1*4294967296+u0+1)*(4294967296*P)≤((q+1)*t)*(4294967296*P):=Ab (by grind) (by omega)
 have a2:u2*P≤4294967295*P:=Ab (by omega) (by omega)
 have a3:0≤(q+1)*(d2*P+d'):=Ac (by omega) (by have:=Ac hd2.1 (Ad hP);omega)
 have a4:((u1*4294967296+u0)*4294967296+u2)*P=(u1*4294967296+u0+1)*(4294967296*P) - 4294967296*P+u2*P:=by grind
 have a5:(q+1)*((t*4294967296+d2)*P+d')=((q+1)*t)*(4294967296*P)+(q+1)*(d2*P+d'):=by grind
 omega
theorem LDq.bound {E V:List Int} {n:Nat} {q r:Int} (h:LDq E V n q r) (e:Est (4294967296 ^ (n - 2)) (wz E) (wz V) (E.getD (n - 1) 0) (E.getD (n - 2) 0) (wz (E.take (n - 2))) (V.getD n 0) (V.getD (n - 1) 0) (V.getD (n - 2) 0) (wz (V.take (n - 2)))):q≤4294967297:=by
 have hu:=e.u1_le
 have ht:=e.ht
 have hu0:=e.hu0
 have he:=h.eq
 have hr:=h.r0
 apply Ah.1
 intro hq
 have:4294967298*E.getD (n - 1) 0≤q*E.getD (n - 1) 0:=Ab (by omega) (by omega)
 omega
theorem LDq.lower {E V : List Int} {n : Nat} {q r : Int} (h : LDq E V n q r) (e : Est (4294967296 ^ (n - 2)) (wz E) (wz V) (E.getD (n - 1) 0) (E.getD (n - 2) 0) (wz (E.take (n - 2))) (V.getD n 0) (V.getD (n - 1) 0) (V.getD (n - 2) 0) (wz (V.take (n - 2))))
  (hc:4294967295<q∨r*4294967296+V.getD (n - 2) 0<q*E.getD (n - 2) 0):LDq E V n (q - 1) (r+E.getD (n - 1) 0)∧1≤q:=by
 have hl:=e.lower (by rw[h.eq];omega) h.q0 hc
 have hN:0≤wz V:=by
  rw[e.hN]
  have:=Ac (show 0≤(V.getD n 0*4294967296+V.getD (n - 1) 0)*4294967296+V.getD (n - 2) 0 by have:=e.hu1;have:=e.hu0;have:=e.hu2;omega) (Ad e.hP)
  have:=e.hn'
  omega
 have hq1:1≤q:=by
  apply Ah.1
  intro hq
  have:q=0:=by have:=h.q0;omega
  subst this
  rw[Az]at hl;omega
 have ht:=e.ht
 refine⟨⟨?_,by omega,by have:=h.r0;omega,?_⟩,hq1⟩
 ·have:=h.eq;grind
 ·rw[show q - 1+1=q by omega];exact hl
theorem LDq.done {E V : List Int} {n : Nat} {q r : Int} (h : LDq E V n q r) (e : Est (4294967296 ^ (n - 2)) (wz E) (wz V) (E.getD (n - 1) 0) (E.getD (n - 2) 0) (wz (E.take (n - 2))) (V.getD n 0) (V.getD (n - 1) 0) (V.getD (n - 2) 0) (wz (V.take (n - 2))))
  (hc:(q≤4294967295∧q*E.getD (n - 2) 0≤r*4294967296+V.getD (n - 2) 0)∨4294967295<r):(0≤q∧q≤4294967295)∧(q - 1)*wz E≤wz V∧wz V<(q+1)*wz E:=by
 have hq:q≤4294967295:=by
  rcases hc with hc|hc
  ·exact hc.1
  ·have hu:=e.u1_le
   have ht:=e.ht
   have hu0:=e.hu0
   have he:=h.eq
   apply Ah.1
   intro hq
   have:4294967296*E.getD (n - 1) 0≤q*E.getD (n - 1) 0:=Ab (by omega) (by omega)
   omega
 refine⟨⟨h.q0,hq⟩,e.close (by rw[h.eq];omega) ⟨h.q0,hq⟩ h.r0 ?_,h.up⟩
 rcases hc with hc|hc
 ·exact .inr hc.2
 ·exact .inl hc
end Go.Sx
namespace Go.Proofs.Vx
open Go Go.Sx Go.Proofs Tryz
attribute [local irreducible] fnT CallOK CallFr AW aI callV aL aJ aH aK gcaseP hid
theorem c3r:fnT prog 256=true:=by kernel_rfl
theorem a6y:fnT prog 257=true:=by kernel_rfl
theorem a6x:fnT prog 258=true:=by kernel_rfl
theorem c3q:fnT prog 259=true:=by kernel_rfl
theorem b0m {ob:Nat→AV} {l n m:Nat} {k:IntKind} {xs:List Int} (h:ob l=.vec 1 (aG k xs)) (hm:m=xs.length) (hn:n≤m) (h0:0<m):bwa ob (.ref l 0 n m)=.sl (aG k (xs.take n)):=by
 subst hm
 simp only[bwa,bw,h,bT,Nat.zero_add]
 rw[if_pos ⟨trivial,hn,h0⟩,An,a4u]
theorem c240 (us ds : List Int) (h2 : 2 ≤ ds.length) (hl : ds.length ≤ us.length) (hn : us.length < 274877906944) (du : Dig us) (dd : Dig ds) (htop : ds.getD (ds.length - 1) 0 ≠ 0) :
  CallOK prog 240 [.sl (aG .u32 us),.sl (aG .u32 ds)] [] (.tup [.sl (aG .u32 (dgp (us.length+1 - ds.length) (wz us / wz ds).toNat)),.sl (aG .u32 (dgp ds.length (wz us % wz ds).toNat))]) []:=by
 refine fV func240 rfl 136 rfl rfl (xD (fE _ _) (fE _ _)) [.tmp 4,.tmp 5] (congrArg Array.toList results240) ?_
 simp only[aD,Ap]
 have hb:=oH (n:=(ds.getD (ds.length - 1) 0).toNat) (k:=32) (by have:=dd.getD (ds.length - 1);omega)
 have hb1:1≤bJ (ds.getD (ds.length - 1) 0).toNat:=by
  have:=dd.getD (ds.length - 1)
  rw[pT (by omega)];omega
 obtain⟨k,hk⟩:∃ k:Nat,(32:Int) - (bJ (ds.getD (ds.length - 1) 0).toNat:Int)=(k:Int):=⟨32 - bJ (ds.getD (ds.length - 1) 0).toNat,by omega⟩
 have hk31:k≤31:=by omega
 have ek:((ds.length:Int) - 1).toNat=ds.length - 1:=by omega
 have eI:(if (0:Int)>((us.length+1:Nat):Int) - (ds.length:Int)then (0:Int)else ((us.length+1:Nat):Int) - (ds.length:Int))=((us.length+1 - ds.length:Nat):Int):=by rw[if_neg (by omega)];omega
 repeat'(first|refine zk ?_|(refine zu ?_ ?_<;>intro hc)|(refine callV.flat (.lit (.int .i64 (k:Int))) c3r (hk▸c256 _ (dd.getD _)) rfl rfl ?_)|(refine cX (.sl (aG .u32 (dgp (ds.length+1) (wz ds*2 ^ k).toNat))) a6y (CallFr.ok (c257 ds k hk31 (by omega) dd)) (by simp -dsimp (disch:=try exact zo)only[go_sem]) (fE _ _) ?_)|(refine a3f 1 (aG .u32 (dgp (us.length+1) (wz us*2 ^ k).toNat)) a6y (c257 us k hk31 (by omega) du) (by simp -dsimp (disch:=try exact zo)only[go_sem]) ?_)|(refine zv ?_ ?_<;>intro hg)|omega|simp -dsimp (disch:=try exact zo)only[go_sem,ek,eI,c2k,ZT,A3]|contradiction|rfl)
 have nd:=c0l (n:=ds.length - 1) dd (by omega) htop hk
 rw[show ds.length - 1+1=ds.length by omega]at nd
 obtain⟨nd1,nd2,nd3⟩:=nd
 obtain⟨p1,p2⟩:=tE hk31
 have wE:=sP (Ad (Int.mul_pos nd1 (by omega))) nd2
 have dE:=lH ds.length (wz ds*2 ^ k).toNat
 have lE:=fX ds.length (wz ds*2 ^ k).toNat
 have hus:=jL du
 have hus0:=dT du
 have hU:wz us*2 ^ k<4294967296 ^ (us.length+1):=by
  rw[Au]
  have h1:=Aa p2 hus0
  omega
 have wU:=sP (Ac hus0 (by omega)) hU
 have dU:=lH (us.length+1) (wz us*2 ^ k).toNat
 have lU:=fX (us.length+1) (wz us*2 ^ k).toNat
 generalize dgp ds.length (wz ds*2 ^ k).toNat=E at *
 generalize dgp (us.length+1) (wz us*2 ^ k).toNat=U0 at *
 generalize hM:us.length+1 - ds.length=M at *
 have hEtop:4294967296 ^ (ds.length - 1)*2147483648≤wz E:=by
  have e:=cN E (ds.length - 1)
  rw[dF (by omega)]at e
  have t:=dT (dE.take (ds.length - 1))
  have:=Aa nd3 (show (0:Int)≤4294967296 ^ (ds.length - 1)from Ad (Ae (by decide)))
  omega
 have hstart:wz (U0.drop M)<wz E:=by
  have e:=wB U0 M (by omega)
  have t:=dT (dU.take M)
  have hpM:(0:Int)<4294967296 ^ M:=Ae (by decide)
  have hpL:(4294967296:Int) ^ us.length=4294967296 ^ M*4294967296 ^ (ds.length - 1):=by rw[← Int.pow_add];congr 1;omega
  apply A7.1
  intro hge
  have h1:=Aa (Int.le_trans hEtop hge) (Ad hpM)
  rw[← Int.mul_assoc,← hpL]at h1
  have h2:=Aa p2 hus0
  omega
 have hfin:∀ U out,LDv E U out M ds.length M (wz us*2 ^ k)→out=dgp M (wz us / wz ds).toNat∧wz (U.take ds.length) / 2 ^ k=wz us % wz ds:=fun U out h=>h.fin lE dE wE nd1
 have hL0:Hid (LDv E U0 (At M 0) M ds.length 0 (wz us*2 ^ k)):=⟨dU,by omega,Dig.rep _,by simp,by simp[wz,wU],by simpa using hstart⟩
 clear hstart wU dU lU hU hus hus0 eI hb hb1 hk nd1 nd2 htop wE hEtop p1 p2
 refine AW.loop (fun z:{p:Nat × List Int × List Int // p.1≤M∧Hid (LDv E p.2.1 p.2.2 M ds.length p.1 (wz us*2 ^ k))}=>⟨[(46,.lit (.int .i64 z.1.1)),(45,.lit (.int .i64 M)),(9,.ref 43 0 M M),(8,.lit (.int .u32 (E.getD (ds.length - 1) 0))),(7,.lit (.int .i64 ds.length)),(0,.ref 27 0 (us.length+1) (us.length+1)),(1,.sl (aG .u32 E)),(6,.lit (.int .i64 k))],[(43,.vec 1 (aG .u32 z.1.2.2)),(27,.vec 1 (aG .u32 z.1.2.1))],48⟩) (fun z=>M - z.1.1) ⟨(0,U0,At M 0),Nat.zero_le _,hL0⟩ zw ?_
 rintro⟨⟨i,U,out⟩,hi,hv⟩
 dsimp only at hi hv ⊢
 clear hL0
 have lO:=hv.out.lO
 by_cases hlt:i<M
 ·obtain⟨A,V,C,hUU,lA,lV,dV,wC,hVB⟩:=hv.out.window hlt lE dE
  subst hUU
  have lUU:=hv.out.lU
  have est:=Hid.mk (c7e lE lV h2 dE dV nd3 hVB)
  have st:=Hid.mk (b8b h2 est.out)
  have stq:Hid (IntKind.u64.wrap ((V.getD (ds.length - 1) 0+V.getD ds.length 0*4294967296) / E.getD (ds.length - 1) 0)=(V.getD (ds.length - 1) 0+V.getD ds.length 0*4294967296) / E.getD (ds.length - 1) 0):=wY st.out.q0 (Int.lt_of_le_of_lt (st.out.bound est.out) (by decide))
  clear hVB hfin
  have e4:((M:Int) - 1 - i).toNat=A.length:=by omega
  have e1:((M:Int) - 1 - i+ds.length).toNat=A.length+ds.length:=by omega
  have e2:((M:Int) - 1 - i+ds.length - 1).toNat=A.length+(ds.length - 1):=by omega
  have e3:((M:Int) - 1 - i+ds.length - 2).toNat=A.length+(ds.length - 2):=by omega
  have e5:((M:Int) - 1 - i+ds.length+1).toNat - A.length=V.length:=by omega
  have e6:((ds.length:Int) - 2).toNat=ds.length - 2:=by omega
  have hor:IntKind.u64.wrap ((BitVec.ofInt IntKind.u64.bits (V.getD ds.length 0*4294967296) ||| BitVec.ofInt IntKind.u64.bits (V.getD (ds.length - 1) 0)).toNat:Int)=V.getD (ds.length - 1) 0+V.getD ds.length 0*4294967296:=by
   rw[BitVec.or_comm];exact a1y (dV.getD (ds.length - 1)) (dV.getD ds.length)
  have t0:=dE.getD (ds.length - 1)
  simp only[List.length_append]at lUU
  have v0:=dV.getD ds.length
  have v1:=dV.getD (ds.length - 1)
  repeat'(first|refine AW.seq ?_|refine iB ?_|refine AW.block (id:=1) ?_|refine AW.blk ?_|refine AW.skip ?_|refine AW.exit rfl ?_|refine c5b (by kernel_rfl) ?_|refine wS uP ?_|(refine zc ?_ ?_<;>intro hc<;>try simp only[NM]at hc)|refine zr ?_|refine⟨by omega,?_⟩|(refine zb ?_ ?_<;>intro hg<;>(try rw[hg])<;>try simp only[NM]at hg)|omega|simp -dsimp (disch:=try exact zo)only[go_sem,e4,e1,e2,e3,e5,e6,jX,mY,hor]|contradiction|rfl)
  refine a8y (fun z:{q:Int // (0≤q∧q≤4294967295)∧Hid ((q - 1)*wz E≤wz V∧wz V<(q+1)*wz E)}=>⟨[(46,.lit (.int .i64 i)),(45,.lit (.int .i64 M)),(9,.ref 43 0 M M),(8,.lit (.int .u32 (E.getD (ds.length - 1) 0))),(7,.lit (.int .i64 ds.length)),(0,.ref 27 0 (us.length+1) (us.length+1)),(1,.sl (aG .u32 E)),(6,.lit (.int .i64 k)),(10,.lit (.int .i64 i)),(11,.lit (.int .i64 (M - 1 - i))),(13,.lit (.int .u64 z.1))],[(43,.vec 1 (aG .u32 out)),(27,.vec 1 (aG .u32 (A++(V++C))))],85⟩) ?_ ?_
  ·refine AW.block ?_
   have hrem:=Af (V.getD (ds.length - 1) 0+V.getD ds.length 0*4294967296) (show 0<E.getD (ds.length - 1) 0 by omega)
   have hrem0:=st.out.r0
   have st0:=st.out.q0
   have st1:=st.out.bound est.out
   rw[stq.out]
   clear stq hor
   generalize (V.getD (ds.length - 1) 0+V.getD ds.length 0*4294967296) / E.getD (ds.length - 1) 0=q0 at *
   generalize (V.getD (ds.length - 1) 0+V.getD ds.length 0*4294967296) % E.getD (ds.length - 1) 0=r0 at *
   refine AW.loop (fun z:{p:Int × Int // Hid (LDq E V ds.length p.1 p.2)∧(0≤p.1∧p.1≤4294967297)∧(0≤p.2∧p.2≤4294967295)}=>⟨[(46,.lit (.int .i64 i)),(45,.lit (.int .i64 M)),(9,.ref 43 0 M M),(8,.lit (.int .u32 (E.getD (ds.length - 1) 0))),(7,.lit (.int .i64 ds.length)),(0,.ref 27 0 (us.length+1) (us.length+1)),(1,.sl (aG .u32 E)),(6,.lit (.int .i64 k)),(10,.lit (.int .i64 i)),(11,.lit (.int .i64 (M - 1 - i))),(13,.lit (.int .u64 z.1.1)),(14,.lit (.int .u64 z.1.2))],[(43,.vec 1 (aG .u32 out)),(27,.vec 1 (aG .u32 (A++(V++C))))],85⟩) (fun z=>z.1.1.toNat) ⟨(q0,r0),st,⟨st0,st1⟩,⟨hrem0,by omega⟩⟩ zw ?_
   clear st st0 st1 hrem hrem0 v0 v1
   rintro⟨⟨q,r⟩,hq,hqb,hrb⟩
   dsimp only at hq hqb hrb ⊢
   have hor2:IntKind.u64.wrap ((BitVec.ofInt IntKind.u64.bits (r*4294967296) ||| BitVec.ofInt IntKind.u64.bits (V.getD (ds.length - 2) 0)).toNat:Int)=V.getD (ds.length - 2) 0+r*4294967296:=by
    rw[BitVec.or_comm];exact a1y (dV.getD (ds.length - 2)) (by omega)
   have v2:=dV.getD (ds.length - 2)
   have d2:=dE.getD (ds.length - 2)
   by_cases hgt:4294967295<q
   ·have hg:=eq_true hgt
    have low:=hq.out.lower est.out (.inl hgt)
    clear hor2 v2 d2 e1 e2 e3 e4 e5 e6 hgt
    have low2:=low.2
    repeat'(first|refine zk ?_|(refine zu ?_ ?_<;>intro hc)|(refine zv ?_ ?_<;>intro hg)|omega|simp -dsimp (disch:=try exact zo)only[go_sem,hg,gt_iff_lt]|contradiction|rfl)
    ·have d:=low.1.done est.out (.inr hc)
     exact AW.stop ⟨⟨q - 1,d.1,d.2⟩,zw⟩
    ·exact AW.stop ⟨⟨(q - 1,r+E.getD (ds.length - 1) 0),low.1,⟨by dsimp only;omega,by dsimp only;omega⟩,⟨by dsimp only;omega,by dsimp only;omega⟩⟩,zw,by dsimp only;omega⟩
   ·have hg:=eq_false hgt
    have hpr:0≤q*E.getD (ds.length - 2) 0∧q*E.getD (ds.length - 2) 0≤18446744065119617025:=by
     have h1:=Ac hqb.1 d2.1
     have h2:=Int.mul_le_mul (show q≤4294967295 by omega) (show E.getD (ds.length - 2) 0≤4294967295 by omega) d2.1 (by decide)
     omega
    by_cases hlw:V.getD (ds.length - 2) 0+r*4294967296<q*E.getD (ds.length - 2) 0
    ·have hl:=eq_true hlw
     have low:=hq.out.lower est.out (.inr (by omega))
     obtain⟨low1,low2⟩:=low
     clear hlw e1 e2 e4 e5
     repeat'(first|refine zk ?_|(refine zu ?_ ?_<;>intro hc)|(refine zv ?_ ?_<;>intro hg)|omega|simp -dsimp (disch:=try exact zo)only[go_sem,e3,e6,jX,hor2,hg,hl,gt_iff_lt]|contradiction|rfl)
     ·have d:=low1.done est.out (.inr hc)
      exact AW.stop ⟨⟨q - 1,d.1,d.2⟩,zw⟩
     ·exact AW.stop ⟨⟨(q - 1,r+E.getD (ds.length - 1) 0),low1,⟨by dsimp only;omega,by dsimp only;omega⟩,⟨by dsimp only;omega,by dsimp only;omega⟩⟩,zw,by dsimp only;omega⟩
    ·have hl:=eq_false hlw
     have don:=hq.out.done est.out (.inl ⟨by omega,by omega⟩)
     clear hlw e1 e2 e4 e5
     repeat'(first|refine zk ?_|(refine zu ?_ ?_<;>intro hc)|(refine zv ?_ ?_<;>intro hg)|omega|simp -dsimp (disch:=try exact zo)only[go_sem,e3,e6,jX,hor2,hg,hl,gt_iff_lt]|contradiction|rfl)
     exact AW.stop ⟨⟨q,don.1,don.2⟩,zw⟩
  ·rintro⟨q,hq01,hqv⟩
   dsimp only at hq01 hqv ⊢
   clear st stq hor est v0 v1 t0
   have w0:=dT dV
   have hq1:Hid (wz V<q*wz E→1≤q):=fun h=>by
    apply Ah.1
    intro hq
    have:q=0:=by omega
    subst this
    rw[Az]at h;omega
   have hsl:us.length+1<274877906945:=by omega
   have hmU:us.length+1=A.length+(V.length+C.length):=by omega
   have hMb:M<274877906945:=by omega
   clear h2 hl hn hi e1 e2 e3 e6 w0 nd3 lUU hM
   by_cases hlw:wz V<q*wz E
   ·have hcT:=eq_true hlw
    have hq1':=hq1.out hlw
    have hif:(if q*wz E≤wz V then wz V - q*wz E else wz V - (q - 1)*wz E)=wz V - (q - 1)*wz E:=if_neg (A7.2 hlw)
    have L:Hid (LDv E (A++(dgp V.length (wz V - (q - 1)*wz E).toNat++C)) (out.set A.length (q - 1)) M ds.length (i+1) (wz us*2 ^ k)):=by
     rw[lA]
     exact hv.out.next hlt lE dE lA lV dV wC ⟨by omega,by omega⟩ hqv.out.1 (by rw[Int.sub_add_cancel];exact hlw)
    clear hlw hq1 wC hv
    repeat'(first|refine zk ?_|(refine zu ?_ ?_<;>intro hc)|(refine mH 27 _ _ _ a6x (pG (c258 A V C E q (us.length+1) (by omega) (by omega) (by omega) dV dE (by omega) hqv.out.1) (kY _ _) (kY _ _) (.lit _) (by simp[jO,fE,q9]) 27) rfl (by simp[xT,fE,q9]) (kY _ _) (kY _ _) (.lit _) rfl ?_)|(refine zv ?_ ?_<;>intro hg)|omega|simp -dsimp (disch:=try exact zo)only[go_sem,e4,e5,jX,mY,hcT,hif]|contradiction|rfl)
    exact AW.stop ⟨⟨(i+1,A++(dgp V.length (wz V - (q - 1)*wz E).toNat++C),out.set A.length (q - 1)),by dsimp only;omega,L⟩,zw,by dsimp only;omega⟩
   ·have hcT:=eq_false hlw
    have hif:(if q*wz E≤wz V then wz V - q*wz E else wz V - (q - 1)*wz E)=wz V - q*wz E:=if_pos (Ah.1 hlw)
    have L:Hid (LDv E (A++(dgp V.length (wz V - q*wz E).toNat++C)) (out.set A.length q) M ds.length (i+1) (wz us*2 ^ k)):=by
     rw[lA]
     exact hv.out.next hlt lE dE lA lV dV wC ⟨by omega,by omega⟩ (Ah.1 hlw) hqv.out.2
    clear hlw hq1 wC hv
    repeat'(first|refine zk ?_|(refine zu ?_ ?_<;>intro hc)|(refine mH 27 _ _ _ a6x (pG (c258 A V C E q (us.length+1) (by omega) (by omega) (by omega) dV dE (by omega) hqv.out.1) (kY _ _) (kY _ _) (.lit _) (by simp[jO,fE,q9]) 27) rfl (by simp[xT,fE,q9]) (kY _ _) (kY _ _) (.lit _) rfl ?_)|(refine zv ?_ ?_<;>intro hg)|omega|simp -dsimp (disch:=try exact zo)only[go_sem,e4,e5,jX,mY,hcT,hif]|contradiction|rfl)
    exact AW.stop ⟨⟨(i+1,A++(dgp V.length (wz V - q*wz E).toNat++C),out.set A.length q),by dsimp only;omega,L⟩,zw,by dsimp only;omega⟩
 ·have hiM:i=M:=by omega
  subst hiM
  have hf:=Hid.mk (hfin U out hv.out)
  have lUU:=hv.out.lU
  have dUt:=hv.out.dU.take ds.length
  have hds:0<ds.length:=by omega
  clear hfin hv
  repeat'(first|refine zk ?_|(refine zu ?_ ?_<;>intro hc)|(refine a3f 1 (aG .u32 (dgp (U.take ds.length).length (wz (U.take ds.length) / 2 ^ k).toNat)) c3q (by rw[Ai,Ai,A4,b0m (xs:=U) rfl (by omega) (by omega) (by omega)];exact c259 (U.take ds.length) k hk31 (by simp;omega) dUt) (by rw[Ai,Ai,A4,b0m (xs:=U) rfl (by omega) (by omega) (by omega)];simp[fE,q9,bwa,bw]) ?_)|(refine zv ?_ ?_<;>intro hg)|omega|simp -dsimp (disch:=try exact zo)only[go_sem,A3]|contradiction|rfl)
  have lT:(U.take ds.length).length=ds.length:=by simp;omega
  rw[if_pos ⟨by omega,by omega⟩,oG (fX _ _),dF (by omega),lT,hf.out.2,← hf.out.1]
end Go.Proofs.Vx
namespace Go.Proofs.Vx
open Go Go.Sx Go.Proofs Tryz
attribute [local irreducible] fnT CallOK CallFr AW aI callV aL aJ aH aK gcaseP hid
theorem lF:fnT prog 138=true:=by kernel_rfl
theorem z6:fnT prog 195=true:=by kernel_rfl
theorem c3t:fnT prog 239=true:=by kernel_rfl
theorem c3s:fnT prog 240=true:=by kernel_rfl
theorem c9p {n:Nat} (h:lmN n≠[]):(lmN n).getD ((lmN n).length - 1) 0≠0:=by
 intro h0
 have hl:1≤(lmN n).length:=by cases hq:lmN n<;>simp_all
 have e:=cN (lmN n) ((lmN n).length - 1)
 rw[dF (by omega),h0,Aw,Ax,lK]at e
 have h1:=sL (lG n) ((lmN n).length - 1)
 have h2:n<B32 ^ ((lmN n).length - 1):=by
  have e2:((4294967296 ^ ((lmN n).length - 1):Nat):Int)=(4294967296:Int) ^ ((lmN n).length - 1):=by rw[Int.natCast_pow];rfl
  show n<4294967296 ^ ((lmN n).length - 1)
  omega
 have:=a3s h2
 omega
theorem a1i {L:Nat} {v:Int} (h0:0≤v) (h:v<4294967296 ^ L):nb (wv (dgp L v.toNat))=nb v.toNat:=by
 congr 1
 have:=rA (lH L v.toNat)
 rw[sP h0 h]at this
 omega
theorem c191 (a b:ByteArray) (ha:a.size<274877906944) (hb:b.size<274877906944):CallOK prog 191 [.lit (.string a),.lit (.string b)] [] (.tup [.lit (.string (nb (nv a / nv b))),.lit (.string (if nv b=0 then nb 0 else nb (nv a % nv b))),.lit (.bool (decide (nv b≠0)))]) []:=by
 refine zs func191 54 [.tmp 4,.tmp 5,.tmp 6] results191 ?_
 simp only[aD,Ap]
 have lD:(lmN (nv b)).length≤(b.size+3) / 4:=m9 b
 have lX:(lmN (nv a)).length≤(a.size+3) / 4:=m9 a
 have dD:=lG (nv b)
 have dX:=lG (nv a)
 have wD:=lK (nv b)
 have wX:=lK (nv a)
 have htop0:=c9p (n:=nv b)
 have lXD:=a5y (p:=nv b) (q:=nv a)
 generalize hD:lmN (nv b)=D at *
 generalize hX:lmN (nv a)=X at *
 have hpX:=jL dX
 have hpD:=jL dD
 by_cases h0:D.length=0
 ·have hD0:D=[]:=List.eq_nil_of_length_eq_zero h0
  have hb0:nv b=0:=by rw[hD0]at wD;simp[wz]at wD;omega
  simp only[hb0,if_true,Nat.div_zero,dJ,ne_eq,not_true_eq_false,decide_false]
  repeat'(first|refine zk ?_|(refine zu ?_ ?_<;>intro hc)|(refine cX (.sl (aG .u32 D)) iU (hD▸jB b (by omega)) (by simp -dsimp (disch:=try exact zo)only[go_sem]) (fE _ _) ?_)|(refine zv ?_ ?_<;>intro hg)|omega|simp -dsimp (disch:=try exact zo)only[go_sem,h0]|contradiction|rfl)
  all_goals skip
 ·have hb0:nv b≠0:=by
   intro h
   rw[h,c1c]at hD
   rw[← hD]at h0;simp at h0
  simp only[hb0,if_false,ne_eq,not_false_eq_true,decide_true]
  have htop:=htop0 (by intro h;rw[h]at h0;simp at h0)
  clear htop0
  by_cases hlt:nv a<nv b
  ·have hc1:bN (nv a) (nv b)=-1:=by unfold bN;rw[if_pos hlt]
   rw[Nat.div_eq_of_lt hlt,Nat.mod_eq_of_lt hlt,dJ]
   clear hpX hpD
   repeat'(first|refine zk ?_|(refine zu ?_ ?_<;>intro hc)|(refine cX (.sl (aG .u32 D)) iU (hD▸jB b (by omega)) (by simp -dsimp (disch:=try exact zo)only[go_sem]) (fE _ _) ?_)|(refine callV.flat (.lit (.int .i64 (bN (nv a) (nv b)))) z6 (c195 a b (by omega) (by omega)) rfl rfl ?_)|(refine callV.flat (.lit (.string (nb (nv a)))) lC (fB a (by omega)) rfl rfl ?_)|(refine zv ?_ ?_<;>intro hg)|omega|simp -dsimp (disch:=try exact zo)only[go_sem,hc1]|contradiction|rfl)
   all_goals skip
  ·have lle:=lXD (by omega)
   have hc1:0≤bN (nv a) (nv b):=by unfold bN;rw[if_neg hlt];split<;>omega
   by_cases h1:D.length=1
   ·obtain⟨d,hd⟩:∃ d,D=[d]:=List.length_eq_one_iff.1 h1
    subst hd
    have hd0:=dD d (by simp)
    have wd:d=nv b:=by simp[wz]at wD;omega
    have hdp:0<d:=by omega
    have q0:0≤wz X / d:=Ag (by omega) (by omega)
    have q1:wz X / d<4294967296 ^ X.length:=by
     have:wz X / d≤wz X:=Int.ediv_le_self _ (by omega)
     omega
    have r0:=Ak (wz X) (show d≠0 by omega)
    have r1:=Af (wz X) hdp
    have e1:nb (nv a / nv b)=nb (wz X / d).toNat:=by rw[wX,wd];congr 1
    have e2:nb (nv a % nv b)=nb (wz X % d).toNat:=by rw[wX,wd];congr 1
    rw[e1,e2]
    clear hpX hpD wD e1 e2
    repeat'(first|refine zk ?_|(refine zu ?_ ?_<;>intro hc)|(refine cX (.sl (aG .u32 [d])) iU (hD▸jB b (by omega)) (by simp -dsimp (disch:=try exact zo)only[go_sem]) (fE _ _) ?_)|(refine callV.flat (.lit (.int .i64 (bN (nv a) (nv b)))) z6 (c195 a b (by omega) (by omega)) rfl rfl ?_)|(refine cX (.sl (aG .u32 X)) iU (hX▸jB a (by omega)) (by simp -dsimp (disch:=try exact zo)only[go_sem]) (fE _ _) ?_)|(refine cX (.tup [.sl (aG .u32 (dgp X.length (wz X / d).toNat)),.lit (.int .u32 (wz X % d))]) c3t (c239 X d (by omega) (by omega) dX) (by simp -dsimp (disch:=try exact zo)only[go_sem]) (xD (fE _ _) (.lit _)) ?_)|(refine cX (.lit (.string (nb (wz X / d).toNat))) oA (a1i (L:=X.length) (v:=wz X / d) q0 q1▸o8 (dgp X.length (wz X / d).toNat) (by rw[fX];omega) (lH _ _)) (by simp -dsimp (disch:=try exact zo)only[go_sem]) (.lit _) ?_)|(refine callV.flat (.lit (.string (nb (wz X % d).toNat))) lF (kI (wz X % d) (by omega)) rfl rfl ?_)|(refine zv ?_ ?_<;>intro hg)|omega|simp -dsimp (disch:=try exact zo)only[go_sem]|contradiction|rfl)
    all_goals skip
   ·have hdp:0<wz D:=by omega
    have q0:0≤wz X / wz D:=Ag (by omega) (by omega)
    have r0:=Ak (wz X) (show wz D≠0 by omega)
    have r1:=Af (wz X) hdp
    have e1:nb (nv a / nv b)=nb (wz X / wz D).toNat:=by rw[wX,wD];congr 1
    have e2:nb (nv a % nv b)=nb (wz X % wz D).toNat:=by rw[wX,wD];congr 1
    have q1:wz X / wz D<4294967296 ^ (X.length+1 - D.length):=by
     have hDl:4294967296 ^ (D.length - 1)≤wz D:=by
      have e:=cN D (D.length - 1)
      rw[dF (by omega)]at e
      have t:=dT (dD.take (D.length - 1))
      have t1:=dD.getD (D.length - 1)
      have:=Aa (show 1≤D.getD (D.length - 1) 0 by omega) (show (0:Int)≤4294967296 ^ (D.length - 1)from Ad (Ae (by decide)))
      omega
     rw[Int.ediv_lt_iff_lt_mul hdp]
     have hp:(0:Int)<4294967296 ^ (X.length+1 - D.length):=Ae (by decide)
     have:=Aa hDl (Ad hp)
     rw[← Int.pow_add,show X.length+1 - D.length+(D.length - 1)=X.length by omega]at this
     omega
    have r2:wz X % wz D<4294967296 ^ D.length:=by omega
    rw[e1,e2]
    clear hpX hpD wD e1 e2 hdp
    repeat'(first|refine zk ?_|(refine zu ?_ ?_<;>intro hc)|(refine cX (.sl (aG .u32 D)) iU (hD▸jB b (by omega)) (by simp -dsimp (disch:=try exact zo)only[go_sem]) (fE _ _) ?_)|(refine callV.flat (.lit (.int .i64 (bN (nv a) (nv b)))) z6 (c195 a b (by omega) (by omega)) rfl rfl ?_)|(refine cX (.sl (aG .u32 X)) iU (hX▸jB a (by omega)) (by simp -dsimp (disch:=try exact zo)only[go_sem]) (fE _ _) ?_)|(refine cX (.tup [.sl (aG .u32 (dgp (X.length+1 - D.length) (wz X / wz D).toNat)),.sl (aG .u32 (dgp D.length (wz X % wz D).toNat))]) c3s (c240 X D (by omega) (by omega) (by omega) dX dD htop) (by simp -dsimp (disch:=try exact zo)only[go_sem]) (xD (fE _ _) (fE _ _)) ?_)|(refine cX (.lit (.string (nb (wz X / wz D).toNat))) oA (a1i (L:=(X.length+1 - D.length)) (v:=wz X / wz D) q0 q1▸o8 (dgp (X.length+1 - D.length) (wz X / wz D).toNat) (by rw[fX];omega) (lH _ _)) (by simp -dsimp (disch:=try exact zo)only[go_sem]) (.lit _) ?_)|(refine cX (.lit (.string (nb (wz X % wz D).toNat))) oA (a1i (L:=D.length) (v:=wz X % wz D) r0 r2▸o8 (dgp D.length (wz X % wz D).toNat) (by rw[fX];omega) (lH _ _)) (by simp -dsimp (disch:=try exact zo)only[go_sem]) (.lit _) ?_)|(refine zv ?_ ?_<;>intro hg)|omega|simp -dsimp (disch:=try exact zo)only[go_sem]|contradiction|rfl)
    all_goals skip
theorem uU (a b:ByteArray) (ha:a.size<274877906944) (hb:b.size<274877906944):CallOK prog 189 [.lit (.string a),.lit (.string b)] [] (.lit (.string (nb (Ao (nv a) (nv b))))) []:=by
 refine zs func189 48 [.tmp 4] results189 ?_
 simp only[aD,Ap]
 repeat'(first|refine zk ?_|(refine zu ?_ ?_<;>intro hc)|(refine zv ?_ ?_<;>intro hg)|omega|simp -dsimp (disch:=try exact zo)only[go_sem]|contradiction|rfl)
 refine AW.loop (fun z:{p:ByteArray × ByteArray // p.1.size<274877906944∧p.2.size<274877906944∧Ao (nv p.1) (nv p.2)=Ao (nv a) (nv b)}=>⟨[(0,.lit (.string z.1.1)),(1,.lit (.string z.1.2))],[],15⟩) (fun z=>nv z.1.2) ⟨(a,b),ha,hb,rfl⟩ zw ?_
 rintro⟨⟨u,v⟩,hu,hv,hg⟩
 dsimp only at hu hv hg ⊢
 rw[← hg]
 clear hg ha hb
 by_cases hv0:nv v=0
 ·have hn:(nb (nv v)=⟨#[]⟩)=True:=eq_true ((fW _).2 hv0)
  rw[hv0,Aq]
  clear hv0
  repeat'(first|refine zk ?_|(refine zu ?_ ?_<;>intro hc)|(refine callV.flat (.lit (.string (nb (nv v)))) lC (fB v (by omega)) rfl rfl ?_)|(refine callV.flat (.lit (.string (nb (nv u)))) lC (fB u (by omega)) rfl rfl ?_)|(refine zv ?_ ?_<;>intro hg)|omega|simp -dsimp (disch:=try exact zo)only[go_sem,hn]|contradiction|rfl)
  all_goals skip
 ·have hn:(nb (nv v)=⟨#[]⟩)=False:=eq_false fun h=>hv0 ((fW _).1 h)
  by_cases hs:nv u<18446744073709551616∧nv v<18446744073709551616
  ·have h1:=eq_true hs.1
   have h2:=eq_true hs.2
   repeat'(first|refine zk ?_|(refine zu ?_ ?_<;>intro hc)|(refine callV.flat (.lit (.string (nb (nv v)))) lC (fB v (by omega)) rfl rfl ?_)|(first|refine zf (c238 u (by omega)) ?_|refine zf (c238 v (by omega)) ?_)|(refine zv ?_ ?_<;>intro hg)|omega|simp -dsimp (disch:=try exact zo)only[go_sem,hn,h1,h2]|contradiction|rfl)
   refine AW.loop (fun z:{p:Nat × Nat // p.1<18446744073709551616∧p.2<18446744073709551616∧Ao p.1 p.2=Ao (nv u) (nv v)}=>⟨[(5,.lit (.int .u64 z.1.1)),(7,.lit (.int .u64 z.1.2))],[],30⟩) (fun z=>z.1.2) ⟨(nv u,nv v),hs.1,hs.2,rfl⟩ zw ?_
   rintro⟨⟨x,y⟩,hx,hy,hg⟩
   dsimp only at hx hy hg ⊢
   rw[← hg]
   clear hg hs h1 h2 hn hv0
   have hm:0<y→x % y<y:=A8 x
   have hmi:((x % y:Nat):Int)=(x:Int) % (y:Int):=Ar x y
   repeat'(first|refine zk ?_|(refine zu ?_ ?_<;>intro hc)|(refine callV.flat (.lit (.string (nb x))) lF (kI (x:Int) (by omega)) rfl rfl ?_)|(refine zv ?_ ?_<;>intro hg)|omega|simp -dsimp (disch:=try exact zo)only[go_sem]|contradiction|rfl)
   ·exact AW.stop ⟨⟨(y,x % y),hy,by dsimp only;omega,by dsimp only;rw[Aj x y,A6 y x,Aj]⟩,(aQ (by refine⟨?_,?_,?_,?_⟩<;>simp -dsimp (disch:=try exact zo)only[go_sem,Ar,ZC])),by dsimp only;omega⟩
   ·have:y=0:=by omega
    rw[this,Aq]
  ·have hm:nv u % nv v<nv v:=A8 _ (by omega)
   have hsz:(nb (nv u % nv v)).size≤v.size:=(b9 _ _).2 (Nat.lt_trans hm (eW v))
   have hgg:Ao (nv v) (nv u % nv v)=Ao (nv u) (nv v):=by rw[Aj (nv u) (nv v)];exact (Aj _ _).trans (A6 (nv v) (nv u)).symm
   have hif:(if nv v=0 then nb 0 else nb (nv u % nv v))=nb (nv u % nv v):=if_neg hv0
   repeat'(first|refine zk ?_|(refine zu ?_ ?_<;>intro hc)|(refine callV.flat (.lit (.string (nb (nv v)))) lC (fB v (by omega)) rfl rfl ?_)|(first|refine zf (c238 u (by omega)) ?_|refine zf (c238 v (by omega)) ?_)|(refine zf (c191 u v (by omega) (by omega)) ?_)|(refine zv ?_ ?_<;>intro hg)|omega|simp -dsimp (disch:=try exact zo)only[go_sem,hn]|contradiction|rfl)
   all_goals exact AW.stop ⟨⟨(v,nb (nv u % nv v)),hv,by dsimp only;omega,by dsimp only;rw[aU];exact hgg⟩,zw,by dsimp only;rw[aU];exact hm⟩
end Go.Proofs.Vx
namespace Go.Sx
set_option linter.unusedVariables false
theorem u7:(nb 0).size=0:=by rw[dJ];rfl
theorem dY:Zm 0=⟨#[]⟩:=dJ
theorem jK (z:Int):Zm (-z)=Zm z:=by unfold Zm;rw[Int.natAbs_neg]
theorem sD (z:Int):z.natAbs<256 ^ (Zm z).size:=(cO z _).1 (Nat.le_refl _)
theorem fO (a b:Int) {k:Nat} (ha:(Zm a).size≤k) (hb:(Zm b).size≤k):(Zm (a+b)).size≤k+1:=by
 rw[cO]at ha hb ⊢
 rw[A5]
 have:=Int.natAbs_add_le a b
 omega
theorem aO (a b:Int) {k l:Nat} (ha:(Zm a).size≤k) (hb:(Zm b).size≤l):(Zm (a*b)).size≤k+l:=by
 rw[cO]at ha hb ⊢
 rw[Int.natAbs_mul,Nat.pow_add]
 exact Nat.mul_lt_mul'' ha hb
theorem lJ (a b:Int) {k:Nat} (ha:(Zm a).size≤k) (hb:(Zm b).size≤k):(Zm (a - b)).size≤k+1:=by
 rw[Int.sub_eq_add_neg];exact fO a (-b) ha (by rw[jK];exact hb)
theorem iG {a b:Int} (h:a.natAbs≤b.natAbs):(Zm a).size≤(Zm b).size:=by
 rw[cO];exact Nat.lt_of_le_of_lt h (sD b)
theorem mT (a b:Int):(Zm (a / b)).size≤(Zm a).size+1:=by
 rw[cO,A5]
 have:=sD a
 have h:=Int.natAbs_ediv_le_natAbs a b
 omega
theorem eA (n:Bool) (m:ByteArray):(Zm (iv n m)).size≤m.size:=by
 rw[cO]
 have:=eW m
 unfold iv
 cases n<;>simp<;>exact this
theorem c7k (k:Nat):(Zm (k:Int))=nb k:=by unfold Zm;rw[Int.natAbs_natCast]
def sg (z:Int):Int:=if z<0 then -1 else if z=0 then 0 else 1
theorem lM {z:Int}:sg z<0↔z<0:=by unfold sg;split<;>(try split)<;>omega
theorem lL {z:Int}:0<sg z↔0<z:=by unfold sg;split<;>(try split)<;>omega
theorem fZ {z:Int}:sg z=0↔z=0:=by unfold sg;split<;>(try split)<;>omega
theorem a5l (z:Int):-1≤sg z∧sg z≤1:=by unfold sg;split<;>(try split)<;>omega
theorem oJ {z:Int} (h:z<0):Zn z=true:=by unfold Zn;simp[h]
theorem kZ {z:Int} (h:0≤z):Zn z=false:=by unfold Zn;simp;omega
theorem zX {z:Int}:(Zm z=⟨#[]⟩)↔z=0:=by
 unfold Zm;rw[fW];omega
theorem b1s (n:Bool) (k:Nat) {z:Int} (h:z=if n then -(k:Int)else k):AV.agg [.lit (.bool (n&&!decide (nb k=⟨#[]⟩))),.lit (.string (nb k))]=.agg (eZ z):=by
 obtain⟨h1,h2⟩:=of_nb n k
 have e:iv n (nb k)=z:=by rw[h];unfold iv;rw[aU]
 rw[e]at h1 h2
 rw[h1,h2]
theorem fH {a b:Int} (h:Zn a=Zn b) (h':Zm a=Zm b):a=b:=by
 have h2:=qO h'
 unfold Zn at h
 have:(a<0)↔(b<0):=by simpa using h
 omega
end Go.Sx
