import Derived.Test.YtjlfgmhmalbiiaaGreatDoorV13
set_option linter.all false
set_option maxHeartbeats 4000000
namespace Go.Proofs.Vx
open Go Go.Sx Go.Proofs Tryz
attribute [local irreducible] fnT CallOK CallFr AW aO callV aP aN aM aQ gcaseP hid
theorem kK:fnT prog 138=true:=by kernel_rfl
theorem yD:fnT prog 195=true:=by kernel_rfl
theorem b9w:fnT prog 239=true:=by kernel_rfl
theorem b9v:fnT prog 240=true:=by kernel_rfl
theorem c5h {n:Nat} (h:lmN n≠[]):(lmN n).getD ((lmN n).length - 1) 0≠0:=by
 intro h0
 have hl:1≤(lmN n).length:=by cases hq:lmN n<;>simp_all
 have e:=cO (lmN n) ((lmN n).length - 1)
 rw[c7 (by omega),h0,Int.mul_zero,Int.add_zero,kR]at e
 have h1:=rL (kO n) ((lmN n).length - 1)
 have h2:n<B32 ^ ((lmN n).length - 1):=by
  have e2:((4294967296 ^ ((lmN n).length - 1):Nat):Int)=(4294967296:Int) ^ ((lmN n).length - 1):=by rw[Int.natCast_pow];rfl
  show n<4294967296 ^ ((lmN n).length - 1)
  omega
 have:=a1l h2
 omega
theorem zF {L:Nat} {v:Int} (h0:0≤v) (h:v<4294967296 ^ L):nb (wv (dgp L v.toNat))=nb v.toNat:=by
 congr 1
 have:=p8 (kP L v.toNat)
 rw[rQ h0 h]at this
 omega
theorem c191 (a b:ByteArray) (ha:a.size<274877906944) (hb:b.size<274877906944):CallOK prog 191 [.lit (.string a),.lit (.string b)] [] (.tup [.lit (.string (nb (nv a / nv b))),.lit (.string (if nv b=0 then nb 0 else nb (nv a % nv b))),.lit (.bool (decide (nv b≠0)))]) []:=by
 refine zs func191 54 [.tmp 4,.tmp 5,.tmp 6] results191 ?_
 simp only[aD,Nat.reduceAdd]
 have lD:(lmN (nv b)).length≤(b.size+3) / 4:=mF b
 have lX:(lmN (nv a)).length≤(a.size+3) / 4:=mF a
 have dD:=kO (nv b)
 have dX:=kO (nv a)
 have wD:=kR (nv b)
 have wX:=kR (nv a)
 have htop0:=c5h (n:=nv b)
 have lXD:=a3p (p:=nv b) (q:=nv a)
 generalize hD:lmN (nv b)=D at *
 generalize hX:lmN (nv a)=X at *
 have hpX:=jC dX
 have hpD:=jC dD
 by_cases h0:D.length=0
 ·have hD0:D=[]:=List.eq_nil_of_length_eq_zero h0
  have hb0:nv b=0:=by rw[hD0]at wD;simp[wz]at wD;omega
  simp only[hb0,if_true,Nat.div_zero,dG,ne_eq,not_true_eq_false,decide_false]
  repeat'(first|refine zg ?_|(refine zc ?_ ?_<;>intro hc<;>try simp only[NM]at hc)|refine zr ?_|(refine dJ (.sl (aJ .u32 D)) iJ (hD▸i0 b (by omega)) (by simp -dsimp (disch:=try exact zo)only[go_sem]) (fC _ _) ?_)|refine⟨by omega,?_⟩|(refine zb ?_ ?_<;>intro hg<;>(try rw[hg])<;>try simp only[NM]at hg)|omega|simp -dsimp (disch:=try exact zo)only[go_sem,h0]|contradiction|rfl)
  all_goals skip
 ·have hb0:nv b≠0:=by
   intro h
   rw[h,b7l]at hD
   rw[← hD]at h0;simp at h0
  simp only[hb0,if_false,ne_eq,not_false_eq_true,decide_true]
  have htop:=htop0 (by intro h;rw[h]at h0;simp at h0)
  clear htop0
  by_cases hlt:nv a<nv b
  ·have hc1:bT (nv a) (nv b)=-1:=by unfold bT;rw[if_pos hlt]
   rw[Nat.div_eq_of_lt hlt,Nat.mod_eq_of_lt hlt,dG]
   clear hpX hpD
   repeat'(first|refine zg ?_|(refine zc ?_ ?_<;>intro hc<;>try simp only[NM]at hc)|refine zr ?_|(refine dJ (.sl (aJ .u32 D)) iJ (hD▸i0 b (by omega)) (by simp -dsimp (disch:=try exact zo)only[go_sem]) (fC _ _) ?_)|(refine callV.flat (.lit (.int .i64 (bT (nv a) (nv b)))) yD (c195 a b (by omega) (by omega)) rfl rfl ?_)|(refine callV.flat (.lit (.string (nb (nv a)))) kJ (eY a (by omega)) rfl rfl ?_)|refine⟨by omega,?_⟩|(refine zb ?_ ?_<;>intro hg<;>(try rw[hg])<;>try simp only[NM]at hg)|omega|simp -dsimp (disch:=try exact zo)only[go_sem,hc1]|contradiction|rfl)
   all_goals skip
  ·have lle:=lXD (by omega)
   have hc1:0≤bT (nv a) (nv b):=by unfold bT;rw[if_neg hlt];split<;>omega
   by_cases h1:D.length=1
   ·obtain⟨d,hd⟩:∃ d,D=[d]:=List.length_eq_one_iff.1 h1
    subst hd
    have hd0:=dD d (by simp)
    have wd:d=nv b:=by simp[wz]at wD;omega
    have hdp:0<d:=by omega
    have q0:0≤wz X / d:=Int.ediv_nonneg (by omega) (by omega)
    have q1:wz X / d<4294967296 ^ X.length:=by
     have:wz X / d≤wz X:=Int.ediv_le_self _ (by omega)
     omega
    have r0:=Int.emod_nonneg (wz X) (show d≠0 by omega)
    have r1:=Int.emod_lt_of_pos (wz X) hdp
    have e1:nb (nv a / nv b)=nb (wz X / d).toNat:=by rw[wX,wd];congr 1
    have e2:nb (nv a % nv b)=nb (wz X % d).toNat:=by rw[wX,wd];congr 1
    rw[e1,e2]
    clear hpX hpD wD e1 e2
    repeat'(first|refine zg ?_|(refine zc ?_ ?_<;>intro hc<;>try simp only[NM]at hc)|refine zr ?_|(refine dJ (.sl (aJ .u32 [d])) iJ (hD▸i0 b (by omega)) (by simp -dsimp (disch:=try exact zo)only[go_sem]) (fC _ _) ?_)|(refine callV.flat (.lit (.int .i64 (bT (nv a) (nv b)))) yD (c195 a b (by omega) (by omega)) rfl rfl ?_)|(refine dJ (.sl (aJ .u32 X)) iJ (hX▸i0 a (by omega)) (by simp -dsimp (disch:=try exact zo)only[go_sem]) (fC _ _) ?_)|(refine dJ (.tup [.sl (aJ .u32 (dgp X.length (wz X / d).toNat)),.lit (.int .u32 (wz X % d))]) b9w (c239 X d (by omega) (by omega) dX) (by simp -dsimp (disch:=try exact zo)only[go_sem,aU]) (vK (fC _ _) (.lit _)) ?_)|(refine dJ (.lit (.string (nb (wz X / d).toNat))) nG (zF (L:=X.length) (v:=wz X / d) q0 q1▸oE (dgp X.length (wz X / d).toNat) (by rw[fP];omega) (kP _ _)) (by simp -dsimp (disch:=try exact zo)only[go_sem,aU]) (.lit _) ?_)|(refine callV.flat (.lit (.string (nb (wz X % d).toNat))) kK (j5 (wz X % d) (by omega)) rfl rfl ?_)|refine⟨by omega,?_⟩|(refine zb ?_ ?_<;>intro hg<;>(try rw[hg])<;>try simp only[NM]at hg)|omega|simp -dsimp (disch:=try exact zo)only[go_sem]|contradiction|rfl)
    all_goals skip
   ·have hdp:0<wz D:=by omega
    have q0:0≤wz X / wz D:=Int.ediv_nonneg (by omega) (by omega)
    have r0:=Int.emod_nonneg (wz X) (show wz D≠0 by omega)
    have r1:=Int.emod_lt_of_pos (wz X) hdp
    have e1:nb (nv a / nv b)=nb (wz X / wz D).toNat:=by rw[wX,wD];congr 1
    have e2:nb (nv a % nv b)=nb (wz X % wz D).toNat:=by rw[wX,wD];congr 1
    have q1:wz X / wz D<4294967296 ^ (X.length+1 - D.length):=by
     have hDl:4294967296 ^ (D.length - 1)≤wz D:=by
      have e:=cO D (D.length - 1)
      rw[c7 (by omega)]at e
      have t:=dK (dD.take (D.length - 1))
      have t1:=dD.getD (D.length - 1)
      have:=Int.mul_le_mul_of_nonneg_left (show 1≤D.getD (D.length - 1) 0 by omega) (show (0:Int)≤4294967296 ^ (D.length - 1)from Int.le_of_lt (Int.pow_pos (by decide)))
      omega
     rw[Int.ediv_lt_iff_lt_mul hdp]
     have hp:(0:Int)<4294967296 ^ (X.length+1 - D.length):=Int.pow_pos (by decide)
     have:=Int.mul_le_mul_of_nonneg_left hDl (Int.le_of_lt hp)
     rw[← Int.pow_add,show X.length+1 - D.length+(D.length - 1)=X.length by omega]at this
     omega
    have r2:wz X % wz D<4294967296 ^ D.length:=by omega
    rw[e1,e2]
    clear hpX hpD wD e1 e2 hdp
    repeat'(first|refine zg ?_|(refine zc ?_ ?_<;>intro hc<;>try simp only[NM]at hc)|refine zr ?_|(refine dJ (.sl (aJ .u32 D)) iJ (hD▸i0 b (by omega)) (by simp -dsimp (disch:=try exact zo)only[go_sem]) (fC _ _) ?_)|(refine callV.flat (.lit (.int .i64 (bT (nv a) (nv b)))) yD (c195 a b (by omega) (by omega)) rfl rfl ?_)|(refine dJ (.sl (aJ .u32 X)) iJ (hX▸i0 a (by omega)) (by simp -dsimp (disch:=try exact zo)only[go_sem]) (fC _ _) ?_)|(refine dJ (.tup [.sl (aJ .u32 (dgp (X.length+1 - D.length) (wz X / wz D).toNat)),.sl (aJ .u32 (dgp D.length (wz X % wz D).toNat))]) b9v (c240 X D (by omega) (by omega) (by omega) dX dD htop) (by simp -dsimp (disch:=try exact zo)only[go_sem,aU]) (vK (fC _ _) (fC _ _)) ?_)|(refine dJ (.lit (.string (nb (wz X / wz D).toNat))) nG (zF (L:=(X.length+1 - D.length)) (v:=wz X / wz D) q0 q1▸oE (dgp (X.length+1 - D.length) (wz X / wz D).toNat) (by rw[fP];omega) (kP _ _)) (by simp -dsimp (disch:=try exact zo)only[go_sem,aU]) (.lit _) ?_)|(refine dJ (.lit (.string (nb (wz X % wz D).toNat))) nG (zF (L:=D.length) (v:=wz X % wz D) r0 r2▸oE (dgp D.length (wz X % wz D).toNat) (by rw[fP];omega) (kP _ _)) (by simp -dsimp (disch:=try exact zo)only[go_sem,aU]) (.lit _) ?_)|refine⟨by omega,?_⟩|(refine zb ?_ ?_<;>intro hg<;>(try rw[hg])<;>try simp only[NM]at hg)|omega|simp -dsimp (disch:=try exact zo)only[go_sem]|contradiction|rfl)
    all_goals skip
theorem tN (a b:ByteArray) (ha:a.size<274877906944) (hb:b.size<274877906944):CallOK prog 189 [.lit (.string a),.lit (.string b)] [] (.lit (.string (nb (Nat.gcd (nv a) (nv b))))) []:=by
 refine zs func189 48 [.tmp 4] results189 ?_
 simp only[aD,Nat.reduceAdd]
 repeat'(first|refine zg ?_|(refine zc ?_ ?_<;>intro hc<;>try simp only[NM]at hc)|refine zr ?_|refine⟨by omega,?_⟩|(refine zb ?_ ?_<;>intro hg<;>(try rw[hg])<;>try simp only[NM]at hg)|omega|simp -dsimp (disch:=try exact zo)only[go_sem]|contradiction|rfl)
 refine AW.loop (fun z:{p:ByteArray × ByteArray // p.1.size<274877906944∧p.2.size<274877906944∧Nat.gcd (nv p.1) (nv p.2)=Nat.gcd (nv a) (nv b)}=>⟨[(0,.lit (.string z.1.1)),(1,.lit (.string z.1.2))],[],15⟩) (fun z=>nv z.1.2) ⟨(a,b),ha,hb,rfl⟩ (aH (by refine⟨?_,?_,?_,?_⟩<;>simp -dsimp (disch:=try exact zo)only[go_sem,ZC])) ?_
 rintro⟨⟨u,v⟩,hu,hv,hg⟩
 dsimp only at hu hv hg ⊢
 rw[← hg]
 clear hg ha hb
 by_cases hv0:nv v=0
 ·have hn:(nb (nv v)=⟨#[]⟩)=True:=eq_true ((fO _).2 hv0)
  rw[hv0,Nat.gcd_zero_right]
  clear hv0
  repeat'(first|refine zg ?_|(refine zc ?_ ?_<;>intro hc<;>try simp only[NM]at hc)|refine zr ?_|(refine callV.flat (.lit (.string (nb (nv v)))) kJ (eY v (by omega)) rfl rfl ?_)|(refine callV.flat (.lit (.string (nb (nv u)))) kJ (eY u (by omega)) rfl rfl ?_)|refine⟨by omega,?_⟩|(refine zb ?_ ?_<;>intro hg<;>(try rw[hg])<;>try simp only[NM]at hg)|omega|simp -dsimp (disch:=try exact zo)only[go_sem,hn]|contradiction|rfl)
  all_goals skip
 ·have hn:(nb (nv v)=⟨#[]⟩)=False:=eq_false fun h=>hv0 ((fO _).1 h)
  by_cases hs:nv u<18446744073709551616∧nv v<18446744073709551616
  ·have h1:=eq_true hs.1
   have h2:=eq_true hs.2
   repeat'(first|refine zg ?_|(refine zc ?_ ?_<;>intro hc<;>try simp only[NM]at hc)|refine zr ?_|(refine callV.flat (.lit (.string (nb (nv v)))) kJ (eY v (by omega)) rfl rfl ?_)|(first|refine zf (c238 u (by omega)) ?_|refine zf (c238 v (by omega)) ?_)|refine⟨by omega,?_⟩|(refine zb ?_ ?_<;>intro hg<;>(try rw[hg])<;>try simp only[NM]at hg)|omega|simp -dsimp (disch:=try exact zo)only[go_sem,hn,h1,h2]|contradiction|rfl)
   refine AW.loop (fun z:{p:Nat × Nat // p.1<18446744073709551616∧p.2<18446744073709551616∧Nat.gcd p.1 p.2=Nat.gcd (nv u) (nv v)}=>⟨[(5,.lit (.int .u64 z.1.1)),(7,.lit (.int .u64 z.1.2))],[],30⟩) (fun z=>z.1.2) ⟨(nv u,nv v),hs.1,hs.2,rfl⟩ (aH (by refine⟨?_,?_,?_,?_⟩<;>simp -dsimp (disch:=try exact zo)only[go_sem,ZC])) ?_
   rintro⟨⟨x,y⟩,hx,hy,hg⟩
   dsimp only at hx hy hg ⊢
   rw[← hg]
   clear hg hs h1 h2 hn hv0
   have hm:0<y→x % y<y:=Nat.mod_lt x
   have hmi:((x % y:Nat):Int)=(x:Int) % (y:Int):=Int.natCast_emod x y
   repeat'(first|refine zg ?_|(refine zc ?_ ?_<;>intro hc<;>try simp only[NM]at hc)|refine zr ?_|(refine callV.flat (.lit (.string (nb x))) kK (j5 (x:Int) (by omega)) rfl rfl ?_)|refine⟨by omega,?_⟩|(refine zb ?_ ?_<;>intro hg<;>(try rw[hg])<;>try simp only[NM]at hg)|omega|simp -dsimp (disch:=try exact zo)only[go_sem]|contradiction|rfl)
   ·exact AW.stop ⟨⟨(y,x % y),hy,by dsimp only;omega,by dsimp only;rw[Nat.gcd_comm x y,Nat.gcd_rec y x,Nat.gcd_comm]⟩,(aH (by refine⟨?_,?_,?_,?_⟩<;>simp -dsimp (disch:=try exact zo)only[go_sem,Int.natCast_emod,ZC])),by dsimp only;omega⟩
   ·have:y=0:=by omega
    rw[this,Nat.gcd_zero_right]
  ·have hm:nv u % nv v<nv v:=Nat.mod_lt _ (by omega)
   have hsz:(nb (nv u % nv v)).size≤v.size:=(cD _ _).2 (Nat.lt_trans hm (eO v))
   have hgg:Nat.gcd (nv v) (nv u % nv v)=Nat.gcd (nv u) (nv v):=by rw[Nat.gcd_comm (nv u) (nv v)];exact (Nat.gcd_comm _ _).trans (Nat.gcd_rec (nv v) (nv u)).symm
   have hif:(if nv v=0 then nb 0 else nb (nv u % nv v))=nb (nv u % nv v):=if_neg hv0
   repeat'(first|refine zg ?_|(refine zc ?_ ?_<;>intro hc<;>try simp only[NM]at hc)|refine zr ?_|(refine callV.flat (.lit (.string (nb (nv v)))) kJ (eY v (by omega)) rfl rfl ?_)|(first|refine zf (c238 u (by omega)) ?_|refine zf (c238 v (by omega)) ?_)|(refine zf (c191 u v (by omega) (by omega)) ?_)|refine⟨by omega,?_⟩|(refine zb ?_ ?_<;>intro hg<;>(try rw[hg])<;>try simp only[NM]at hg)|omega|simp -dsimp (disch:=try exact zo)only[go_sem,hn]|contradiction|rfl)
   all_goals exact AW.stop ⟨⟨(v,nb (nv u % nv v)),hv,by dsimp only;omega,by dsimp only;rw[aZ];exact hgg⟩,(aH (by refine⟨?_,?_,?_,?_⟩<;>simp -dsimp (disch:=try exact zo)only[go_sem,hif,ZC])),by dsimp only;rw[aZ];exact hm⟩
end Go.Proofs.Vx
namespace Go.Sx
set_option linter.unusedVariables false
theorem tV:(nb 0).size=0:=by rw[dG];rfl
theorem eD:Zm 0=⟨#[]⟩:=dG
theorem iN (z:Int):Zm (-z)=Zm z:=by unfold Zm;rw[Int.natAbs_neg]
theorem rG (z:Int):z.natAbs<256 ^ (Zm z).size:=(cI z _).1 (Nat.le_refl _)
theorem gH (a b:Int) {k:Nat} (ha:(Zm a).size≤k) (hb:(Zm b).size≤k):(Zm (a+b)).size≤k+1:=by
 rw[cI]at ha hb ⊢
 rw[Nat.pow_succ]
 have:=Int.natAbs_add_le a b
 omega
theorem aR (a b:Int) {k l:Nat} (ha:(Zm a).size≤k) (hb:(Zm b).size≤l):(Zm (a*b)).size≤k+l:=by
 rw[cI]at ha hb ⊢
 rw[Int.natAbs_mul,Nat.pow_add]
 exact Nat.mul_lt_mul'' ha hb
theorem zs_sub (a b:Int) {k:Nat} (ha:(Zm a).size≤k) (hb:(Zm b).size≤k):(Zm (a - b)).size≤k+1:=by
 rw[Int.sub_eq_add_neg];exact gH a (-b) ha (by rw[iN];exact hb)
theorem g9 {a b:Int} (h:a.natAbs≤b.natAbs):(Zm a).size≤(Zm b).size:=by
 rw[cI];exact Nat.lt_of_le_of_lt h (rG b)
theorem l7 (a b:Int):(Zm (a / b)).size≤(Zm a).size+1:=by
 rw[cI,Nat.pow_succ]
 have:=rG a
 have h:=Int.natAbs_ediv_le_natAbs a b
 omega
theorem dL (n:Bool) (m:ByteArray):(Zm (iv n m)).size≤m.size:=by
 rw[cI]
 have:=eO m
 unfold iv
 cases n<;>simp<;>exact this
theorem c3e (k:Nat):(Zm (k:Int))=nb k:=by unfold Zm;rw[Int.natAbs_natCast]
def sg (z:Int):Int:=if z<0 then -1 else if z=0 then 0 else 1
theorem mD {z:Int}:sg z<0↔z<0:=by unfold sg;split<;>(try split)<;>omega
theorem a6t {z:Int}:0<sg z↔0<z:=by unfold sg;split<;>(try split)<;>omega
theorem fT {z:Int}:sg z=0↔z=0:=by unfold sg;split<;>(try split)<;>omega
theorem a3e (z:Int):-1≤sg z∧sg z≤1:=by unfold sg;split<;>(try split)<;>omega
theorem nM {z:Int} (h:z<0):Zn z=true:=by unfold Zn;simp[h]
theorem kH {z:Int} (h:0≤z):Zn z=false:=by unfold Zn;simp;omega
theorem yC {z:Int}:(Zm z=⟨#[]⟩)↔z=0:=by
 unfold Zm;rw[fO];omega
theorem a8n (n:Bool) (k:Nat) {z:Int} (h:z=if n then -(k:Int)else k):AV.agg [.lit (.bool (n&&!decide (nb k=⟨#[]⟩))),.lit (.string (nb k))]=.agg (eZ z):=by
 obtain⟨h1,h2⟩:=of_nb n k
 have e:iv n (nb k)=z:=by rw[h];unfold iv;rw[aZ]
 rw[e]at h1 h2
 rw[h1,h2]
theorem pU {a b:Int} (h:Zn a=Zn b) (h':Zm a=Zm b):a=b:=by
 have h2:=pQ h'
 unfold Zn at h
 have:(a<0)↔(b<0):=by simpa using h
 omega
end Go.Sx
namespace Go.Proofs.Vx
open Go Go.Sx Go.Proofs Tryz
attribute [local irreducible] fnT CallOK CallFr AW aO callV aP aN aM aQ gcaseP hid
theorem b5u:agT prog 2=some false∧agT prog 24=some true∧agT prog 4=some false∧boT prog 2=false∧boT prog 4=true∧fdT prog 24 0=some (0,1,false)∧fdT prog 24 1=some (1,1,false)∧kiT prog 2=some .i64∧plT prog 24=some [(0,1),(1,1)]∧slT prog 2=none∧bM prog 2=false∧szT prog 24=some 2∧szT prog 4=some 1∧szT prog 9=some 1∧zeT prog 24=some [.lit (.bool false),.lit (.string ⟨#[]⟩)]:=by and_intros<;>kernel_rfl
attribute [go_sem] b5u
theorem c3j:fnT prog 82=true:=by kernel_rfl
theorem cC:fnT prog 137=true:=by kernel_rfl
theorem bP:fnT prog 142=true:=by kernel_rfl
theorem c1l (x y:Int):x*y=if (!decide (Zn x=Zn y))=true then -((nv (Zm x)*nv (Zm y):Nat):Int)else ((nv (Zm x)*nv (Zm y):Nat):Int):=by
 rw[aT,aT,← Int.natAbs_mul]
 unfold Zn
 by_cases hx:x<0<;>by_cases hy:y<0<;>simp[hx,hy]
 ·have:=Int.mul_pos_of_neg_of_neg hx hy;omega
 ·have:=Int.mul_nonpos_of_nonpos_of_nonneg (Int.le_of_lt hx) (Int.not_lt.1 hy);omega
 ·have:=Int.mul_nonpos_of_nonneg_of_nonpos (Int.not_lt.1 hx) (Int.le_of_lt hy);omega
 ·have:=Int.mul_nonneg (Int.not_lt.1 hx) (Int.not_lt.1 hy);omega
theorem c137 (n:Bool) (m:ByteArray):CallOK prog 137 [.lit (.bool n),.lit (.string m)] [] (.agg [.lit (.bool (n&&!decide (m=⟨#[]⟩))),.lit (.string m)]) []:=by
 refine zs func137 12 [.cell 4 24] results137 ?_
 simp only[aD,Nat.reduceAdd]
 repeat'(first|refine zg ?_|(refine zc ?_ ?_<;>intro hc<;>try simp only[NM]at hc)|refine zr ?_|refine⟨by omega,?_⟩|(refine zb ?_ ?_<;>intro hg<;>(try rw[hg])<;>try simp only[NM]at hg)|omega|simp -dsimp (disch:=try exact zo)only[go_sem]|contradiction|rfl)
 all_goals (cases n<;>simp_all)
theorem cF (n:Bool) (k:Nat) (z:Int) (h:z=if n then -(k:Int)else k):CallOK prog 137 [.lit (.bool n),.lit (.string (nb k))] [] (.agg (eZ z)) []:=by
 rw[← a8n n k h];exact c137 n (nb k)
theorem bN (n:Bool) (m:ByteArray) (hm:m.size<4611686018427387904):CallOK prog 142 [.agg (eI n m)] [] (.agg (eZ (iv n m))) []:=by
 refine zs func142 9 [.cell 2 24] results142 ?_
 simp only[aD,Nat.reduceAdd]
 repeat'(first|refine zg ?_|(refine zc ?_ ?_<;>intro hc<;>try simp only[NM]at hc)|refine zr ?_|(refine zf (eY _ (by omega)) ?_)|(refine callV.flat (.agg (eZ (iv n m))) cC (cF _ (nv m) (iv n m) (rfl)) rfl rfl ?_)|refine⟨by omega,?_⟩|(refine zb ?_ ?_<;>intro hg<;>(try rw[hg])<;>try simp only[NM]at hg)|omega|simp -dsimp (disch:=try exact zo)only[go_sem]|contradiction|rfl)
theorem a8x (a:Int) (ha:(Zm a).size<4611686018427387904):CallOK prog 142 [.agg (eZ a)] [] (.agg (eZ a)) []:=by
 have:=bN (Zn a) (Zm a) ha
 rwa [bB]at this
theorem c67 (z:Int) (h:-9223372036854775808≤z∧z<9223372036854775808):CallOK prog 67 [.lit (.int .i64 z)] [] (.agg (eZ z)) []:=by
 refine zs func67 16 [.cell 2 24] results67 ?_
 simp only[aD,Nat.reduceAdd]
 repeat'(first|refine zg ?_|(refine zc ?_ ?_<;>intro hc<;>try simp only[NM]at hc)|refine zr ?_|(first|refine callV.flat (.lit (.string (nb (-z).toNat))) kK (by have:=j5 (0 - (z+1)+1) (by omega);rw[show (0 - (z+1)+1:Int)=-z by omega]at this ⊢;exact this) rfl rfl ?_|refine zf (j5 z (by omega)) ?_)|(first|refine callV.flat (.agg (eZ z)) cC (cF true (-z).toNat z (by simp only[reduceIte];omega)) rfl rfl ?_|refine callV.flat (.agg (eZ z)) cC (cF false z.toNat z (by simp only[Bool.false_eq_true,reduceIte];omega)) rfl rfl ?_)|refine⟨by omega,?_⟩|(refine zb ?_ ?_<;>intro hg<;>(try rw[hg])<;>try simp only[NM]at hg)|omega|simp -dsimp (disch:=try exact zo)only[go_sem]|contradiction|rfl)
theorem c76 (n:Bool) (m:ByteArray) (hm:m.size<4611686018427387904):CallOK prog 76 [.agg (eI n m)] [] (.lit (.int .i64 (sg (iv n m)))) []:=by
 refine zs func76 12 [.tmp 2] results76 ?_
 simp only[aD,Nat.reduceAdd]
 repeat'(first|refine zg ?_|(refine zc ?_ ?_<;>intro hc<;>try simp only[NM]at hc)|refine zr ?_|(refine zf (bN _ _ (by omega)) ?_)|refine⟨by omega,?_⟩|(refine zb ?_ ?_<;>intro hg<;>(try rw[hg])<;>try simp only[NM]at hg)|omega|simp -dsimp (disch:=try exact zo)only[go_sem]|contradiction|rfl)
 all_goals (unfold sg Zn at *;simp_all[yC])
theorem c73 (n:Bool) (m:ByteArray) (hm:m.size<4611686018427387904):CallOK prog 73 [.agg (eI n m)] [] (.agg (eZ (-iv n m))) []:=by
 refine zs func73 11 [.cell 2 24] results73 ?_
 simp only[aD,Nat.reduceAdd]
 repeat'(first|refine zg ?_|(refine zc ?_ ?_<;>intro hc<;>try simp only[NM]at hc)|refine zr ?_|(refine zf (bN _ _ (by omega)) ?_)|(refine callV.flat (.agg (eZ (-iv n m))) cC (cF _ ((iv n m).natAbs) (-iv n m) (by unfold Zn;by_cases h:iv n m<0<;>simp[h]<;>omega)) rfl rfl ?_)|refine⟨by omega,?_⟩|(refine zb ?_ ?_<;>intro hg<;>(try rw[hg])<;>try simp only[NM]at hg)|omega|simp -dsimp (disch:=try exact zo)only[go_sem]|contradiction|rfl)
theorem fK (a:Int) (ha:(Zm a).size<4611686018427387904):CallOK prog 76 [.agg (eZ a)] [] (.lit (.int .i64 (sg a))) []:=by
 have:=c76 (Zn a) (Zm a) ha
 rwa [bB]at this
theorem f7 (a:Int) (ha:(Zm a).size<4611686018427387904):CallOK prog 73 [.agg (eZ a)] [] (.agg (eZ (-a))) []:=by
 have:=c73 (Zn a) (Zm a) ha
 rwa [bB]at this
theorem c83 (n:Bool) (m:ByteArray) (n':Bool) (m':ByteArray) (hm:m.size<68719476736) (hm':m'.size<68719476736):CallOK prog 83 [.agg (eI n m),.agg (eI n' m')] [] (.agg (eZ (iv n m*iv n' m'))) []:=by
 refine zs func83 20 [.cell 4 24] results83 ?_
 simp only[aD,Nat.reduceAdd]
 have sx:=dL n m
 have sy:=dL n' m'
 generalize hx:iv n m=x at *
 generalize hy:iv n' m'=y at *
 repeat'(first|refine zg ?_|(refine zc ?_ ?_<;>intro hc<;>try simp only[NM]at hc)|refine zr ?_|(first|refine callV.flat (.agg (eZ x)) bP (hx▸bN n m (by omega)) rfl rfl ?_|refine callV.flat (.agg (eZ y)) bP (hy▸bN n' m' (by omega)) rfl rfl ?_)|(refine zf (c149 _ _ (by omega) (by omega)) ?_)|(refine callV.flat (.agg (eZ (x*y))) cC (cF _ (nv (Zm x)*nv (Zm y)) (x*y) (c1l x y)) rfl rfl ?_)|refine⟨by omega,?_⟩|(refine zb ?_ ?_<;>intro hg<;>(try rw[hg])<;>try simp only[NM]at hg)|omega|simp -dsimp (disch:=try exact zo)only[go_sem]|contradiction|rfl)
theorem kY (a b:ByteArray) (ha:a.size<274877906944) (hb:b.size<274877906944) (h:nv b≤nv a):CallOK prog 148 [.lit (.string a),.lit (.string b)] [] (.tup [.lit (.string (nb (nv a - nv b))),.lit (.bool true)]) []:=by
 have:=c148 a b ha hb
 rwa [if_neg (by omega),decide_eq_true h]at this
theorem zY (a b:ByteArray) (ha:a.size<274877906944) (hb:b.size<274877906944) (h:nv a<nv b):CallOK prog 148 [.lit (.string a),.lit (.string b)] [] (.tup [.lit (.string ⟨#[]⟩),.lit (.bool false)]) []:=by
 have:=c148 a b ha hb
 rwa [if_pos h,decide_eq_false (by omega)]at this
theorem p5 {x y:Int} (hs:Zn x=Zn y):x+y=if Zn x=true then -((nv (Zm x)+nv (Zm y):Nat):Int)else ((nv (Zm x)+nv (Zm y):Nat):Int):=by
 simp only[aT]
 unfold Zn at hs ⊢
 by_cases h:x<0<;>by_cases h':y<0<;>simp[h,h']at hs ⊢<;>omega
theorem pZ {x y:Int} (hs:¬ Zn x=Zn y) (hle:y.natAbs≤x.natAbs):x+y=if Zn x=true then -((nv (Zm x) - nv (Zm y):Nat):Int)else ((nv (Zm x) - nv (Zm y):Nat):Int):=by
 simp only[aT]
 unfold Zn at hs ⊢
 by_cases h:x<0<;>by_cases h':y<0<;>simp only[h,h',decide_true,decide_false,reduceIte,not_true_eq_false,Bool.false_eq_true]at hs ⊢<;>omega
theorem pY {x y:Int} (hs:¬ Zn x=Zn y) (hle:¬ y.natAbs≤x.natAbs):x+y=if Zn y=true then -((nv (Zm y) - nv (Zm x):Nat):Int)else ((nv (Zm y) - nv (Zm x):Nat):Int):=by
 simp only[aT]
 unfold Zn at hs ⊢
 by_cases h:x<0<;>by_cases h':y<0<;>simp only[h,h',decide_true,decide_false,reduceIte,not_true_eq_false,Bool.false_eq_true]at hs ⊢<;>omega
theorem c82 (n:Bool) (m:ByteArray) (n':Bool) (m':ByteArray) (hm:m.size<68719476736) (hm':m'.size<68719476736):CallOK prog 82 [.agg (eI n m),.agg (eI n' m')] [] (.agg (eZ (iv n m+iv n' m'))) []:=by
 refine zs func82 51 [.cell 4 24] results82 ?_
 simp only[aD,Nat.reduceAdd]
 have sx:=dL n m
 have sy:=dL n' m'
 generalize hx:iv n m=x at *
 generalize hy:iv n' m'=y at *
 by_cases hs:Zn x=Zn y
 ·have hT:=eq_true hs
  repeat'(first|refine zg ?_|(refine zc ?_ ?_<;>intro hc<;>try simp only[NM]at hc)|refine zr ?_|(first|refine callV.flat (.agg (eZ x)) bP (hx▸bN n m (by omega)) rfl rfl ?_|refine callV.flat (.agg (eZ y)) bP (hy▸bN n' m' (by omega)) rfl rfl ?_)|(refine zf (lI _ _ (by omega) (by omega)) ?_)|(first|refine zf (kY _ _ (by omega) (by omega) (by simp only[aT];omega)) ?_|refine zf (zY _ _ (by omega) (by omega) (by simp only[aT];omega)) ?_)|(first|refine callV.flat (.agg (eZ (x+y))) cC (cF (Zn x) _ _ (p5 hs)) rfl rfl ?_|refine callV.flat (.agg (eZ (x+y))) cC (cF (Zn x) _ _ (pZ hs hle)) rfl rfl ?_|refine callV.flat (.agg (eZ (x+y))) cC (cF (Zn y) _ _ (pY hs hle)) rfl rfl ?_)|refine⟨by omega,?_⟩|(refine zb ?_ ?_<;>intro hg<;>(try rw[hg])<;>try simp only[NM]at hg)|omega|simp -dsimp (disch:=try exact zo)only[go_sem,hT]|contradiction|rfl)
 ·have hT:=eq_false hs
  by_cases hle:y.natAbs≤x.natAbs
  ·repeat'(first|refine zg ?_|(refine zc ?_ ?_<;>intro hc<;>try simp only[NM]at hc)|refine zr ?_|(first|refine callV.flat (.agg (eZ x)) bP (hx▸bN n m (by omega)) rfl rfl ?_|refine callV.flat (.agg (eZ y)) bP (hy▸bN n' m' (by omega)) rfl rfl ?_)|(refine zf (lI _ _ (by omega) (by omega)) ?_)|(first|refine zf (kY _ _ (by omega) (by omega) (by simp only[aT];omega)) ?_|refine zf (zY _ _ (by omega) (by omega) (by simp only[aT];omega)) ?_)|(first|refine callV.flat (.agg (eZ (x+y))) cC (cF (Zn x) _ _ (p5 hs)) rfl rfl ?_|refine callV.flat (.agg (eZ (x+y))) cC (cF (Zn x) _ _ (pZ hs hle)) rfl rfl ?_|refine callV.flat (.agg (eZ (x+y))) cC (cF (Zn y) _ _ (pY hs hle)) rfl rfl ?_)|refine⟨by omega,?_⟩|(refine zb ?_ ?_<;>intro hg<;>(try rw[hg])<;>try simp only[NM]at hg)|omega|simp -dsimp (disch:=try exact zo)only[go_sem,hT]|contradiction|rfl)
  ·repeat'(first|refine zg ?_|(refine zc ?_ ?_<;>intro hc<;>try simp only[NM]at hc)|refine zr ?_|(first|refine callV.flat (.agg (eZ x)) bP (hx▸bN n m (by omega)) rfl rfl ?_|refine callV.flat (.agg (eZ y)) bP (hy▸bN n' m' (by omega)) rfl rfl ?_)|(refine zf (lI _ _ (by omega) (by omega)) ?_)|(first|refine zf (kY _ _ (by omega) (by omega) (by simp only[aT];omega)) ?_|refine zf (zY _ _ (by omega) (by omega) (by simp only[aT];omega)) ?_)|(first|refine callV.flat (.agg (eZ (x+y))) cC (cF (Zn x) _ _ (p5 hs)) rfl rfl ?_|refine callV.flat (.agg (eZ (x+y))) cC (cF (Zn x) _ _ (pZ hs hle)) rfl rfl ?_|refine callV.flat (.agg (eZ (x+y))) cC (cF (Zn y) _ _ (pY hs hle)) rfl rfl ?_)|refine⟨by omega,?_⟩|(refine zb ?_ ?_<;>intro hg<;>(try rw[hg])<;>try simp only[NM]at hg)|omega|simp -dsimp (disch:=try exact zo)only[go_sem,hT]|contradiction|rfl)
theorem tM (a b:Int) (ha:(Zm a).size<68719476736) (hb:(Zm b).size<68719476736):CallOK prog 82 [.agg (eZ a),.agg (eZ b)] [] (.agg (eZ (a+b))) []:=by
 have:=c82 (Zn a) (Zm a) (Zn b) (Zm b) ha hb
 rwa [bB,bB]at this
theorem bE (a b:Int) (ha:(Zm a).size<68719476736) (hb:(Zm b).size<68719476736):CallOK prog 83 [.agg (eZ a),.agg (eZ b)] [] (.agg (eZ (a*b))) []:=by
 have:=c83 (Zn a) (Zm a) (Zn b) (Zm b) ha hb
 rwa [bB,bB]at this
theorem c166 (n:Bool) (m:ByteArray) (n':Bool) (m':ByteArray) (hm:m.size<68719476736) (hm':m'.size<68719476736):CallOK prog 166 [.agg (eI n m),.agg (eI n' m')] [] (.agg (eZ (iv n m - iv n' m'))) []:=by
 refine zs func166 9 [.cell 4 24] results166 ?_
 simp only[aD,Nat.reduceAdd]
 repeat'(first|refine zg ?_|(refine zc ?_ ?_<;>intro hc<;>try simp only[NM]at hc)|refine zr ?_|(refine zf (c73 n' m' (by omega)) ?_)|(refine callV.flat (.agg (eZ (iv n m - iv n' m'))) c3j (by have:=c82 n m (Zn (-iv n' m')) (Zm (-iv n' m')) (by omega) (by rw[iN];have:=dL n' m';omega);rw[bB]at this;exact this) rfl rfl ?_)|refine⟨by omega,?_⟩|(refine zb ?_ ?_<;>intro hg<;>(try rw[hg])<;>try simp only[NM]at hg)|omega|simp -dsimp (disch:=try exact zo)only[go_sem]|contradiction|rfl)
theorem a8w (a b:Int) (ha:(Zm a).size<68719476736) (hb:(Zm b).size<68719476736):CallOK prog 166 [.agg (eZ a),.agg (eZ b)] [] (.agg (eZ (a - b))) []:=by
 have:=c166 (Zn a) (Zm a) (Zn b) (Zm b) ha hb
 rwa [bB,bB]at this
theorem c97 (n:Bool) (m:ByteArray) (n':Bool) (m':ByteArray) (hm:m.size<68719476736) (hm':m'.size<68719476736):CallOK prog 97 [.agg (eI n m),.agg (eI n' m')] [] (.lit (.int .i64 (sg (iv n m - iv n' m')))) []:=by
 refine zs func97 9 [.tmp 4] results97 ?_
 simp only[aD,Nat.reduceAdd]
 repeat'(first|refine zg ?_|(refine zc ?_ ?_<;>intro hc<;>try simp only[NM]at hc)|refine zr ?_|(refine zf (c166 n m n' m' (by omega) (by omega)) ?_)|(refine zf (fK (iv n m - iv n' m') (by have:=zs_sub (iv n m) (iv n' m') (k:=68719476736) (by have:=dL n m;omega) (by have:=dL n' m';omega);omega)) ?_)|refine⟨by omega,?_⟩|(refine zb ?_ ?_<;>intro hg<;>(try rw[hg])<;>try simp only[NM]at hg)|omega|simp -dsimp (disch:=try exact zo)only[go_sem]|contradiction|rfl)
theorem fZ (a b:Int) (ha:(Zm a).size<68719476736) (hb:(Zm b).size<68719476736):CallOK prog 97 [.agg (eZ a),.agg (eZ b)] [] (.lit (.int .i64 (sg (a - b)))) []:=by
 have:=c97 (Zn a) (Zm a) (Zn b) (Zm b) ha hb
 rwa [bB,bB]at this
end Go.Proofs.Vx
