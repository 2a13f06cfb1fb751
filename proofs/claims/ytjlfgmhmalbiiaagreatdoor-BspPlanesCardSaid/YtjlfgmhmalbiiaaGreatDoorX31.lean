import Derived.Test.YtjlfgmhmalbiiaaGreatDoorX30
set_option linter.all false
set_option maxHeartbeats 8000000
open Int renaming le_of_lt → Ac, natAbs_mul → Ah
open Nat renaming reduceAdd → Aa, le_trans → Ad, gcd_dvd_left → Ae, gcd → Ag, le_refl → Ai, pow_pos → Aj, sub_le → Ak
open Rat renaming divInt → Ab, zero_divInt → Af
namespace Go.Proofs.Vx
open Go Go.Sx Go.Proofs Tryz
attribute [local irreducible] fnT CallOK CallFr AW aK callV aL aJ aI aM gcaseP hid
theorem c174 (a b:ByteArray) (ha:a.size<1099511627776) (hb:b.size<1099511627776):CallOK prog 174 [.lit (.string a),.lit (.string b)] [] (.lit (.string (nb (nv a+nv b)))) []:=by
 refine zs func174 45 [.tmp 4] results174 ?_
 simp only[aD,Aa]
 have hml:maxLen=9223372036854775807:=rfl
 have hi0:aH .u8 []=[]:=rfl
 obtain⟨M,h1,h2,h3⟩:∃ M,a.size≤M∧b.size≤M∧M<1099511627776:=⟨max a.size b.size,by omega,by omega,by omega⟩
 repeat'(first|refine zk ?_|(refine zu ?_ ?_<;>intro hc)|(refine zv ?_ ?_<;>intro hg)|omega|simp -dsimp (disch:=try exact zo)only[go_sem]|contradiction|rfl)
 refine AW.loop (fun z:{p:Nat × List Int × Int // p.1≤M+1∧gU p.2.1∧p.2.1.length=p.1∧(0≤p.2.2∧p.2.2≤1)∧w8 p.2.1+p.2.2*256 ^ p.1=bP a p.1+bP b p.1∧(p.1=M+1→p.2.2=0)}=>⟨[(7,.lit (.int .i64 z.1.1)),(6,.lit (.int .i64 z.1.2.2)),(5,.ref 9 0 z.1.1 z.1.1),(0,.lit (.string a)),(1,.lit (.string b))],[(9,.vec 1 (aH .u8 z.1.2.1))],40⟩) (fun z=>M+2 - z.1.1) ⟨(0,[],0),Nat.zero_le _,fun x hx=>by simp at hx,rfl,by dsimp only;omega,by simp[w8,wL],fun _=>rfl⟩ zw ?_
 rintro⟨⟨i,X,c⟩,hi,dX,hX,hc1,hv,hM⟩
 dsimp only at hi dX hX hc1 hv hM ⊢
 have b1:=jV a i
 have b2:=jV b i
 by_cases hgo:(i<a.size∨i<b.size)∨0<c
 ·have hiM:i≤M:=by
   apply Classical.byContradiction
   intro hn
   have:=hM (by omega)
   omega
  have z1:a.size≤i→bt a i=0:=fun h=>a2l h
  have z2:b.size≤i→bt b i=0:=fun h=>a2l h
  have hM2:i=M→(c+(bt a i+bt b i)) / 256=0:=fun h=>by have:=z1 (by omega);have:=z2 (by omega);omega
  clear z1 z2 hM
  have hXl:(X++[0]).length=i+1:=by simp[hX]
  have gw:Hid (w8 (X++[(c+(bt a i+bt b i)) % 256])+(c+(bt a i+bt b i)) / 256*256 ^ (i+1)=bP a (i+1)+bP b (i+1)):=Hid.mk (by
   have e1:=pW a i
   have e2:=pW b i
   rw[a5l,hX,e1,e2,n8]
   simp only[w8]
   have:(c+(bt a i+bt b i)) % 256=(c+(bt a i+bt b i)) - 256*((c+(bt a i+bt b i)) / 256):=by omega
   rw[this]
   generalize (c+(bt a i+bt b i)) / 256=q at *
   grind)
  clear hv
  by_cases q1:i<a.size
  ·have k1:((i:Int)<(a.size:Int))=True:=eq_true (by omega)
   have k2:True:=trivial
   have k3:True:=trivial
   have hd:0≤(c+(bt a i+bt b i)) % 256∧(c+(bt a i+bt b i)) % 256<256:=by omega
   have wd:IntKind.u8.wrap ((c+(bt a i+bt b i)) % 256)=(c+(bt a i+bt b i)) % 256:=kG hd.1 hd.2
   have dX1:=qD dX hd
   repeat'(first|refine zk ?_|(refine zu ?_ ?_<;>intro hc)|(first|refine zf (jO a i (by omega)) ?_|refine zf (jO b i (by omega)) ?_)|(refine zv ?_ ?_<;>intro hg)|omega|simp -dsimp (disch:=try exact zo)only[go_sem,k1,k2,k3,wd,ZT,bZ,gW,hX]|contradiction|rfl)
   all_goals exact AW.stop ⟨⟨(i+1,X++[(c+(bt a i+bt b i)) % 256],(c+(bt a i+bt b i)) / 256),by dsimp only;omega,dX1,by simp[hX],by dsimp only;omega,gw.out,by dsimp only;omega⟩,(aR (by refine⟨?_,?_,?_,?_⟩<;>first|(simp -dsimp (disch:=try exact zo)only[go_sem,ZC,hXl,gW];done)|(simp -dsimp (disch:=try exact zo)only[go_sem,ZC];done))),by dsimp only;omega⟩
  ·have k1:((i:Int)<(a.size:Int))=False:=eq_false (by omega)
   by_cases q2:i<b.size
   ·have k2:((i:Int)<(b.size:Int))=True:=eq_true (by omega)
    have k3:True:=trivial
    have hd:0≤(c+(bt a i+bt b i)) % 256∧(c+(bt a i+bt b i)) % 256<256:=by omega
    have wd:IntKind.u8.wrap ((c+(bt a i+bt b i)) % 256)=(c+(bt a i+bt b i)) % 256:=kG hd.1 hd.2
    have dX1:=qD dX hd
    repeat'(first|refine zk ?_|(refine zu ?_ ?_<;>intro hc)|(first|refine zf (jO a i (by omega)) ?_|refine zf (jO b i (by omega)) ?_)|(refine zv ?_ ?_<;>intro hg)|omega|simp -dsimp (disch:=try exact zo)only[go_sem,k1,k2,k3,wd,ZT,bZ,gW,hX]|contradiction|rfl)
    all_goals exact AW.stop ⟨⟨(i+1,X++[(c+(bt a i+bt b i)) % 256],(c+(bt a i+bt b i)) / 256),by dsimp only;omega,dX1,by simp[hX],by dsimp only;omega,gw.out,by dsimp only;omega⟩,(aR (by refine⟨?_,?_,?_,?_⟩<;>first|(simp -dsimp (disch:=try exact zo)only[go_sem,ZC,hXl,gW];done)|(simp -dsimp (disch:=try exact zo)only[go_sem,ZC];done))),by dsimp only;omega⟩
   ·have k2:((i:Int)<(b.size:Int))=False:=eq_false (by omega)
    have k3:(0<c)=True:=eq_true (by omega)
    have hd:0≤(c+(bt a i+bt b i)) % 256∧(c+(bt a i+bt b i)) % 256<256:=by omega
    have wd:IntKind.u8.wrap ((c+(bt a i+bt b i)) % 256)=(c+(bt a i+bt b i)) % 256:=kG hd.1 hd.2
    have dX1:=qD dX hd
    repeat'(first|refine zk ?_|(refine zu ?_ ?_<;>intro hc)|(first|refine zf (jO a i (by omega)) ?_|refine zf (jO b i (by omega)) ?_)|(refine zv ?_ ?_<;>intro hg)|omega|simp -dsimp (disch:=try exact zo)only[go_sem,k1,k2,k3,wd,ZT,bZ,gW,hX]|contradiction|rfl)
    all_goals exact AW.stop ⟨⟨(i+1,X++[(c+(bt a i+bt b i)) % 256],(c+(bt a i+bt b i)) / 256),by dsimp only;omega,dX1,by simp[hX],by dsimp only;omega,gw.out,by dsimp only;omega⟩,(aR (by refine⟨?_,?_,?_,?_⟩<;>first|(simp -dsimp (disch:=try exact zo)only[go_sem,ZC,hXl,gW];done)|(simp -dsimp (disch:=try exact zo)only[go_sem,ZC];done))),by dsimp only;omega⟩
 ·have k1:((i:Int)<(a.size:Int))=False:=eq_false (by omega)
  have k2:((i:Int)<(b.size:Int))=False:=eq_false (by omega)
  have k3:(0<c)=False:=eq_false (by omega)
  have hfin:nb (nv ⟨(ofI X).toArray⟩)=nb (nv a+nv b):=by
   congr 1
   have e1:=uP X dX
   have e2:=p8 (m:=a) (i:=i) (by omega)
   have e3:=p8 (m:=b) (i:=i) (by omega)
   have e4:c=0:=by omega
   rw[e2,e3,e4]at hv
   omega
  clear hv hM
  repeat'(first|refine zk ?_|(refine zu ?_ ?_<;>intro hc)|(refine zv ?_ ?_<;>intro hg)|omega|simp -dsimp (disch:=try exact zo)only[go_sem,hX,bZ,k1,k2,k3]|contradiction|rfl)
  all_goals
   refine⟨ofI X,by first|exact iN _ dX|(rw[List.take_of_length_le (by first|omega|(rw[bZ];omega))];exact iN _ dX),?_⟩
   repeat'(first|refine zk ?_|(refine zu ?_ ?_<;>intro hc)|(refine zf (g8 _ (by rw[tT];omega)) ?_)|(refine zv ?_ ?_<;>intro hg)|omega|simp -dsimp (disch:=try exact zo)only[go_sem,hfin]|contradiction|rfl)
end Go.Proofs.Vx
namespace Go.Proofs.Vx
open Go Go.Sx Go.Proofs Tryz
attribute [local irreducible] fnT CallOK CallFr AW aK callV aL aJ aI aM gcaseP hid
theorem b9t:boT prog 24=false∧Tryz.prog.eqGuardType Tryz.prog.depth 24=false∧lfT prog 30 24=some [.b,.s]:=by and_intros<;>kernel_rfl
attribute [go_sem] b9t
theorem c9m:fnT prog 64=true:=by kernel_rfl
theorem c5m:fnT prog 114=true:=by kernel_rfl
theorem qI:fnT prog 134=true:=by kernel_rfl
theorem j9:fnT prog 152=true:=by kernel_rfl
theorem kR (n:Bool) (k:Nat) (z:Int) (hk:(nb k).size<4611686018427387904) (h:z=if n then -(k:Int)else k):CallOK prog 152 [.lit (.bool n),.lit (.string (nb k))] [] (.agg (eZ z)) []:=by
 have:=nU n (nb k) hk
 have e:iv n (nb k)=z:=by rw[h];unfold iv;rw[aV]
 rwa [e]at this
theorem mulS (x y:Int):x*y=if (!(Zn x == Zn y))=true then -((nv (Zm x)*nv (Zm y):Nat):Int)else ((nv (Zm x)*nv (Zm y):Nat):Int):=by
 have h1:((nv (Zm x)*nv (Zm y):Nat):Int)=((x*y).natAbs:Int):=by rw[aS,aS,Ah]
 rw[h1]
 unfold Zn
 by_cases h:x<0<;>by_cases h':y<0<;>simp[h,h']
 ·have:=Int.mul_nonneg_of_nonpos_of_nonpos (Ac h) (Ac h');omega
 ·have:=Int.mul_nonpos_of_nonpos_of_nonneg (Ac h) (show 0≤y by omega);omega
 ·have:=Int.mul_nonpos_of_nonneg_of_nonpos (show 0≤x by omega) (Ac h');omega
 ·have:=Int.mul_nonneg (show 0≤x by omega) (show 0≤y by omega);omega
theorem nbm (x y:Int):(nb (nv (Zm x)*nv (Zm y))).size≤(Zm x).size+(Zm y).size:=by
 have:=aP x y (Ai _) (Ai _)
 have e:nv (Zm x)*nv (Zm y)=(x*y).natAbs:=by rw[aS,aS,Ah]
 rw[e];exact this
theorem cU (x y:Int) (hx:(Zm x).size<549755813888) (hy:(Zm y).size<549755813888):CallOK prog 112 [.agg (eZ x),.agg (eZ y)] [] (.agg (eZ (x*y))) []:=by
 refine zs func112 16 [.cell 4 24] results112 ?_
 simp only[aD,Aa]
 have hs:=nbm x y
 repeat'(first|refine zk ?_|(refine zu ?_ ?_<;>intro hc)|(refine zf (c173 (Zm x) (Zm y) (by omega) (by omega)) ?_)|(refine callV.flat (.agg (eZ (x*y))) j9 (kR _ _ _ (by omega) (mulS x y)) rfl rfl ?_)|(refine zv ?_ ?_<;>intro hg)|omega|simp -dsimp (disch:=try exact zo)only[go_sem]|contradiction|rfl)
theorem c175f (a b:ByteArray) (ha:a.size<1099511627776) (hb:b.size<1099511627776) (hle:nv a<nv b):CallOK prog 175 [.lit (.string a),.lit (.string b)] [] (.tup [.lit (.string ⟨#[]⟩),.lit (.bool false)]) []:=by
 refine zs func175 42 [.tmp 4,.tmp 5] results175 ?_
 simp only[aD,Aa]
 have c207x:=c207 a b ha hb
 have hc0:bR (nv a) (nv b)<0:=by unfold bR;rw[if_pos hle];decide
 generalize bR (nv a) (nv b)=cm at *
 have k0:(cm<0)=True:=eq_true hc0
 exact z1
theorem vI (x y:Int) (hx:(Zm x).size<549755813888) (hy:(Zm y).size<549755813888):CallOK prog 114 [.agg (eZ x),.agg (eZ y)] [] (.agg (eZ (x+y))) []:=by
 refine zs func114 45 [.cell 4 24] results114 ?_
 simp only[aD,Aa]
 have n1:(nb (nv (Zm x)+nv (Zm y))).size≤(Zm x).size+(Zm y).size+1:=by
  rw[cG,aS,aS,Nat.pow_succ,Nat.pow_add]
  have h1:=sY x
  have h2:=sY y
  have h3:1≤256 ^ (Zm x).size:=Aj (by decide)
  have h4:1≤256 ^ (Zm y).size:=Aj (by decide)
  have h5:=Nat.mul_le_mul_left (256 ^ (Zm x).size) h4
  have h6:=Nat.mul_le_mul_right (256 ^ (Zm y).size) h3
  omega
 have n2:(nb (nv (Zm x) - nv (Zm y))).size≤(Zm x).size:=Ad (qM (Ak _ _)) (eA _)
 have n3:(nb (nv (Zm y) - nv (Zm x))).size≤(Zm y).size:=Ad (qM (Ak _ _)) (eA _)
 by_cases hs:Zn x=Zn y
 ·have hT:=eq_true hs
  repeat'(first|refine zk ?_|(refine zu ?_ ?_<;>intro hc)|(refine zf (c174 (Zm x) (Zm y) (by omega) (by omega)) ?_)|(first|refine zf ca ?_|refine zf cb ?_)|(first|refine callV.flat (.agg (eZ (x+y))) j9 (kR (Zn x) _ _ (by omega) (rO hs)) rfl rfl ?_|refine callV.flat (.agg (eZ (x+y))) j9 (kR (Zn x) _ _ (by omega) (rN hs hle)) rfl rfl ?_|refine callV.flat (.agg (eZ (x+y))) j9 (kR (Zn y) _ _ (by omega) (rM hs hle)) rfl rfl ?_)|(refine zv ?_ ?_<;>intro hg)|omega|simp -dsimp (disch:=try exact zo)only[go_sem,hT]|contradiction|rfl)
 ·have hT:=eq_false hs
  by_cases hle:y.natAbs≤x.natAbs
  ·have ca:=c175 (Zm x) (Zm y) (by omega) (by omega) (by rw[aS,aS];exact hle)
   have cb:True:=trivial
   repeat'(first|refine zk ?_|(refine zu ?_ ?_<;>intro hc)|(refine zf (c174 (Zm x) (Zm y) (by omega) (by omega)) ?_)|(first|refine zf ca ?_|refine zf cb ?_)|(first|refine callV.flat (.agg (eZ (x+y))) j9 (kR (Zn x) _ _ (by omega) (rO hs)) rfl rfl ?_|refine callV.flat (.agg (eZ (x+y))) j9 (kR (Zn x) _ _ (by omega) (rN hs hle)) rfl rfl ?_|refine callV.flat (.agg (eZ (x+y))) j9 (kR (Zn y) _ _ (by omega) (rM hs hle)) rfl rfl ?_)|(refine zv ?_ ?_<;>intro hg)|omega|simp -dsimp (disch:=try exact zo)only[go_sem,hT]|contradiction|rfl)
  ·have ca:=c175f (Zm x) (Zm y) (by omega) (by omega) (by rw[aS,aS];omega)
   have cb:=c175 (Zm y) (Zm x) (by omega) (by omega) (by rw[aS,aS];omega)
   repeat'(first|refine zk ?_|(refine zu ?_ ?_<;>intro hc)|(refine zf (c174 (Zm x) (Zm y) (by omega) (by omega)) ?_)|(first|refine zf ca ?_|refine zf cb ?_)|(first|refine callV.flat (.agg (eZ (x+y))) j9 (kR (Zn x) _ _ (by omega) (rO hs)) rfl rfl ?_|refine callV.flat (.agg (eZ (x+y))) j9 (kR (Zn x) _ _ (by omega) (rN hs hle)) rfl rfl ?_|refine callV.flat (.agg (eZ (x+y))) j9 (kR (Zn y) _ _ (by omega) (rM hs hle)) rfl rfl ?_)|(refine zv ?_ ?_<;>intro hg)|omega|simp -dsimp (disch:=try exact zo)only[go_sem,hT]|contradiction|rfl)
theorem pF (z:Int) (h:(Zm z).size<4611686018427387904):CallOK prog 89 [.agg (eZ z)] [] (.agg (eZ (-z))) []:=by
 have:=c89 (Zn z) (Zm z) (by omega)
 rw[bB]at this
 exact this
theorem c86w (z:Int) (h:(Zm z).size<4611686018427387904):CallOK prog 86 [.agg (eZ z)] [] (.lit (.int .i64 (sg z))) []:=by
 have:=c86 (Zn z) (Zm z) (by omega)
 rw[bB]at this
 exact this
theorem mO (z:Int) (h:(Zm z).size<4611686018427387904):CallOK prog 85 [.agg (eZ z)] [] (.agg (eZ z)) []:=by
 have:=c85 (Zn z) (Zm z) (by omega)
 rw[bB]at this
 exact this
theorem c157 (x y:Int) (hx:(Zm x).size<549755813888) (hy:(Zm y).size<549755813888):CallOK prog 157 [.agg (eZ x),.agg (eZ y)] [] (.agg (eZ (x - y))) []:=by
 refine zs func157 9 [.cell 4 24] results157 ?_
 simp only[aD,Aa]
 repeat'(first|refine zk ?_|(refine zu ?_ ?_<;>intro hc)|(refine zf (pF y (by omega)) ?_)|(refine callV.flat (.agg (eZ (x - y))) c5m (by have:=vI x (-y) hx (by rw[iS];exact hy);rw[← Int.sub_eq_add_neg]at this;exact this) rfl rfl ?_)|(refine zv ?_ ?_<;>intro hg)|omega|simp -dsimp (disch:=try exact zo)only[go_sem]|contradiction|rfl)
theorem c113 (x y:Int) (hx:(Zm x).size<549755813888) (hy:(Zm y).size<549755813888):CallOK prog 113 [.agg (eZ x),.agg (eZ y)] [] (.lit (.int .i64 (sg (x - y)))) []:=by
 refine zs func113 9 [.tmp 4] results113 ?_
 simp only[aD,Aa]
 have h1:=kE x y (k:=549755813888) (by omega) (by omega)
 try have zh0:=(c157 x y hx hy)
 try have zh1:=(c86w (x - y) (by omega))
 exact z1
theorem lC (q:Rat) (h:Qs 4294967296 q):CallOK prog 133 [.agg (eQ q)] [] (.agg (eZ q.num)) []:=by
 refine zs func133 9 [.cell 2 24] results133 ?_
 simp only[aD,Aa]
 have h1:=h.num
 try have zh0:=(mO q.num (by omega))
 exact z1
theorem sP  : CallOK prog 136 [] [] (.agg (eZ 1)) []:=by
 refine zs func136 2 [.cell 0 24] results136 ?_
 simp only[aD,Aa]
 try have zh0:=(c87 1 (by decide) (by decide))
 exact z1
theorem mR (q:Rat) (h:Qs 4294967296 q):CallOK prog 135 [.agg (eQ q)] [] (.agg (eZ (q.den:Int))) []:=by
 refine zs func135 13 [.cell 2 24] results135 ?_
 simp only[aD,Aa]
 have h2:=h.den
 rw[oU]
 by_cases hd:q.den=1
 ·have hq:Qd q=⟨#[]⟩:=if_pos hd
  have e:nb (nv (Qd q))=⟨#[]⟩:=by rw[hq,← eB,aV]
  have e1:eZ 1=[.lit (.bool false),.lit (.string (nb q.den))]:=by rw[hd];simp[eZ,Zn,Zm]
  have eT:True:=trivial
  have qs:(Qd q).size=0:=by rw[hq];rfl
  have c85q:=c85 false (Qd q) (by omega)
  have ez:iv false (Qd q)=((nv (Qd q):Nat):Int):=rfl
  rw[ez,oU,e]at c85q
  have c136v:=sP
  rw[e1]at c136v
  repeat'(first|refine zk ?_|(refine zu ?_ ?_<;>intro hc)|(refine zf c85q ?_)|(refine zf c136v ?_)|(refine zv ?_ ?_<;>intro hg)|omega|simp -dsimp (disch:=try exact zo)only[go_sem,eT]|contradiction|rfl)
 ·have hq:Qd q=nb q.den:=if_neg hd
  have e:nb (nv (Qd q))=nb q.den:=by rw[hq,aV]
  have eT:(nb q.den=⟨#[]⟩)=False:=eq_false fun h=>q.den_nz ((gK _).1 h)
  have qs:(Qd q).size≤4294967296:=by rw[hq];exact h2
  have c85q:=c85 false (Qd q) (by omega)
  have ez:iv false (Qd q)=((nv (Qd q):Nat):Int):=rfl
  rw[ez,oU,e]at c85q
  have c136v:True:=trivial
  repeat'(first|refine zk ?_|(refine zu ?_ ?_<;>intro hc)|(refine zf c85q ?_)|(refine zf c136v ?_)|(refine zv ?_ ?_<;>intro hg)|omega|simp -dsimp (disch:=try exact zo)only[go_sem,eT]|contradiction|rfl)
theorem b4q {n d:Int} (h0:d≠0):(Ab n d).num=0↔n=0:=by
 constructor
 ·intro e
  have h1:=x6 (n:=n) h0
  rw[e]at h1
  have h2:=Nat.div_mul_cancel (Ae n.natAbs d.natAbs)
  rw[h1]at h2
  have:n.natAbs=0:=by rw[← h2];exact Nat.zero_mul _
  omega
 ·rintro rfl
  rw[Af];rfl
theorem c88y (n d:Int) (hn:(Zm n).size≤268435456) (hd:(Zm d).size≤268435456):CallOK prog 88 [.sl [[.lit (.bool false),.lit (.string (Zm n))],[.lit (.bool false),.lit (.string (Zm d))]]] [] (.agg [.lit (.bool false),.lit (.string (nb (Ag n.natAbs d.natAbs)))]) []:=by
 have:=c88 [(false,Zm n),(false,Zm d)] (by simp) (fun r hr=>by simp at hr;rcases hr with rfl|rfl<;>assumption)
 have e:gT [(false,Zm n),(false,Zm d)] 2=Ag n.natAbs d.natAbs:=by
  unfold gT
  simp[aS]
 rw[show [(false,Zm n),(false,Zm d)].length=2 from rfl,e,oU]at this
 exact this
theorem c90y (n:Int) (k g:Nat) (hg:0<g) (hd:g∣n.natAbs) (e:n.natAbs / g=k) (h:(Zm n).size≤268435456) (hgs:(nb g).size≤268435456):CallOK prog 90 [.agg [.lit (.bool false),.lit (.string (Zm n))],.agg [.lit (.bool false),.lit (.string (nb g))]] [] (.tup [.agg [.lit (.bool false),.lit (.string (nb k))],.agg (eZ 0),.lit (.bool true)]) []:=by
 have:=c90 false (Zm n) g hg (by rw[aS];exact hd) h hgs
 have e1:iv false (Zm n) / (g:Int)=((k:Nat):Int):=by
  show ((nv (Zm n):Nat):Int) / (g:Int)=_
  rw[aS,← e,Int.natCast_ediv]
 rw[e1,oU]at this
 exact this
theorem lB (n d:Int) (hn:(Zm n).size≤268435456) (hd:(Zm d).size≤268435456) (h0:d≠0):CallOK prog 134 [.agg (eZ n),.agg (eZ d)] [] (.tup [.agg (eQ (Ab n d)),.lit (.bool true)]) []:=by
 refine zs func134 57 [.cell 4 41,.tmp 5] results134 ?_
 simp only[aD,Aa]
 have k0:(Zm d=⟨#[]⟩)=False:=eq_false fun h=>h0 (a0s.1 h)
 have cg:=c88y n d hn hd
 have hG:0<Ag n.natAbs d.natAbs:=Nat.gcd_pos_of_pos_right _ (by omega)
 have hGs:(nb (Ag n.natAbs d.natAbs)).size≤268435456:=Ad (qM (Nat.gcd_le_right _ (by omega))) hd
 have d1:=c90y n (Ab n d).num.natAbs _ hG (Ae _ _) (x6 h0) hn hGs
 have d2:=c90y d (Ab n d).den _ hG (Nat.gcd_dvd_right _ _) (a2f h0) hd hGs
 have e1:nb (Ab n d).num.natAbs=Zm (Ab n d).num:=rfl
 have k1:(Zm (Ab n d).num=⟨#[]⟩)=(n=0):=by rw[a0s];exact propext (b4q h0)
 have k3:n≠0→(!(Zn n == Zn d))=Zn (Ab n d).num:=fun hn0=>by have:=b1j (n:=n) (d:=d) hn0 h0;rwa [← Bool.beq_eq_decide_eq]at this
 have hQ:eQ (Ab n d)=[.lit (.bool (Zn (Ab n d).num)),.lit (.string (Zm (Ab n d).num)),.lit (.string (Qd (Ab n d)))]:=rfl
 have k4:n=0→Zn (Ab n d).num=false:=fun hn0=>by rw[hn0,Af];rfl
 have k5:(Ab n d).den=1→Qd (Ab n d)=⟨#[]⟩:=fun h=>if_pos h
 have k6:(Ab n d).den≠1→Qd (Ab n d)=nb (Ab n d).den:=fun h=>if_neg h
 have zn1:Zn 1=false:=rfl
 have zm1:Zm 1=nb 1:=rfl
 rw[e1]at d1
 rw[hQ]
 clear hQ e1 hG h0
 generalize Ag n.natAbs d.natAbs=G at *
 generalize (Ab n d).num=qn at *
 generalize Qd (Ab n d)=qd at *
 generalize (Ab n d).den=qe at *
 by_cases hn0:n=0
 ·rw[eq_true hn0]at k1
  have k3:=(k4 hn0)
  rw[k3]
  by_cases h1:qe=1
  ·have k2:(nb qe=nb 1)=True:=eq_true (by rw[h1])
   rw[k5 h1]
   clear k4 k5 k6 hn0
   have k3:True:=trivial
   repeat'(first|refine zk ?_|(refine zu ?_ ?_<;>intro hc)|(first|refine zf (mO n (by omega)) ?_|refine zf (mO d (by omega)) ?_)|(refine iL _ kF cg rfl rfl (by simp -dsimp (disch:=try exact zo)only[go_sem]) (.agg _ (by intro c hc;simp only[zM,or_false]at hc;rcases hc with rfl|rfl<;>exact .lit _)) ?_)|(first|refine zf d1 ?_|refine zf d2 ?_)|(refine zf sP ?_)|(refine zv ?_ ?_<;>intro hg)|omega|simp -dsimp (disch:=try exact zo)only[go_sem,k0,k1,k2,k3,zn1,zm1,and_self,true_and]|contradiction|rfl)
  ·have k2:(nb qe=nb 1)=False:=eq_false fun h=>h1 (rC h)
   rw[k6 h1]
   clear k4 k5 k6 hn0
   have k3:True:=trivial
   repeat'(first|refine zk ?_|(refine zu ?_ ?_<;>intro hc)|(first|refine zf (mO n (by omega)) ?_|refine zf (mO d (by omega)) ?_)|(refine iL _ kF cg rfl rfl (by simp -dsimp (disch:=try exact zo)only[go_sem]) (.agg _ (by intro c hc;simp only[zM,or_false]at hc;rcases hc with rfl|rfl<;>exact .lit _)) ?_)|(first|refine zf d1 ?_|refine zf d2 ?_)|(refine zf sP ?_)|(refine zv ?_ ?_<;>intro hg)|omega|simp -dsimp (disch:=try exact zo)only[go_sem,k0,k1,k2,k3,zn1,zm1,and_self,true_and]|contradiction|rfl)
 ·rw[eq_false hn0]at k1
  have k3:=k3 hn0
  by_cases h1:qe=1
  ·have k2:(nb qe=nb 1)=True:=eq_true (by rw[h1])
   rw[k5 h1]
   clear k4 k5 k6 hn0
   repeat'(first|refine zk ?_|(refine zu ?_ ?_<;>intro hc)|(first|refine zf (mO n (by omega)) ?_|refine zf (mO d (by omega)) ?_)|(refine iL _ kF cg rfl rfl (by simp -dsimp (disch:=try exact zo)only[go_sem]) (.agg _ (by intro c hc;simp only[zM,or_false]at hc;rcases hc with rfl|rfl<;>exact .lit _)) ?_)|(first|refine zf d1 ?_|refine zf d2 ?_)|(refine zf sP ?_)|(refine zv ?_ ?_<;>intro hg)|omega|simp -dsimp (disch:=try exact zo)only[go_sem,k0,k1,k2,k3,zn1,zm1,and_self,true_and]|contradiction|rfl)
  ·have k2:(nb qe=nb 1)=False:=eq_false fun h=>h1 (rC h)
   rw[k6 h1]
   clear k4 k5 k6 hn0
   repeat'(first|refine zk ?_|(refine zu ?_ ?_<;>intro hc)|(first|refine zf (mO n (by omega)) ?_|refine zf (mO d (by omega)) ?_)|(refine iL _ kF cg rfl rfl (by simp -dsimp (disch:=try exact zo)only[go_sem]) (.agg _ (by intro c hc;simp only[zM,or_false]at hc;rcases hc with rfl|rfl<;>exact .lit _)) ?_)|(first|refine zf d1 ?_|refine zf d2 ?_)|(refine zf sP ?_)|(refine zv ?_ ?_<;>intro hg)|omega|simp -dsimp (disch:=try exact zo)only[go_sem,k0,k1,k2,k3,zn1,zm1,and_self,true_and]|contradiction|rfl)
theorem c64 (a:Rat) (hsa:Qs 67108864 a) (b:Rat) (hsb:Qs 67108864 b):CallOK prog 64 [.agg (eQ a),.agg (eQ b)] [] (.agg (eQ (a+b))) []:=by
 refine zs func64 28 [.cell 4 41] results64 ?_
 simp only[aD,Aa]
 have s1:=hsa.num
 have s2:=hsa.den'
 have s3:=hsb.num
 have s4:=hsb.den'
 have s5:=aP a.num (b.den:Int) s1 s4
 have s6:=aP b.num (a.den:Int) s3 s2
 have s7:=aP (a.den:Int) (b.den:Int) s2 s4
 have s8:=gY _ _ s5 s6
 repeat'(first|refine zk ?_|(refine zu ?_ ?_<;>intro hc)|(first|refine zf (lC a (Qs.mono hsa (by omega))) ?_|refine zf (lC b (Qs.mono hsb (by omega))) ?_)|(first|refine zf (mR a (Qs.mono hsa (by omega))) ?_|refine zf (mR b (Qs.mono hsb (by omega))) ?_)|(first|refine zf (cU (a.num) ((b.den:Int)) (by omega) (by omega)) ?_|refine zf (cU (b.num) ((a.den:Int)) (by omega) (by omega)) ?_|refine zf (cU ((a.den:Int)) ((b.den:Int)) (by omega) (by omega)) ?_)|(refine zf (vI (a.num*(b.den:Int)) (b.num*(a.den:Int)) (by omega) (by omega)) ?_)|(refine callV.flat (.tup [.agg (eQ (a+b)),.lit (.bool true)]) qI (by have:=lB (a.num*(b.den:Int)+b.num*(a.den:Int)) ((a.den:Int)*(b.den:Int)) (by omega) (by omega) (xO a b);rw[a2u a b]at this;exact this) rfl rfl ?_)|(refine zv ?_ ?_<;>intro hg)|omega|simp -dsimp (disch:=try exact zo)only[go_sem]|contradiction|rfl)
theorem c231 (a:Rat) (hsa:Qs 67108864 a):CallOK prog 231 [.agg (eQ a)] [] (.agg (eQ (-a))) []:=by
 refine zs func231 15 [.cell 2 41] results231 ?_
 simp only[aD,Aa]
 have s1:=hsa.num
 have s2:=hsa.den'
 have s3:(Zm (-a.num)).size≤67108864:=by rw[iS];exact s1
 repeat'(first|refine zk ?_|(refine zu ?_ ?_<;>intro hc)|(refine zf (lC a (Qs.mono hsa (by omega))) ?_)|(refine zf (mR a (Qs.mono hsa (by omega))) ?_)|(refine zf (pF a.num (by omega)) ?_)|(refine callV.flat (.tup [.agg (eQ (-a)),.lit (.bool true)]) qI (by have:=lB (-a.num) ((a.den:Int)) (by omega) (by omega) (fP a);rw[b2g a]at this;exact this) rfl rfl ?_)|(refine zv ?_ ?_<;>intro hg)|omega|simp -dsimp (disch:=try exact zo)only[go_sem]|contradiction|rfl)
theorem sM (a:Rat) (hsa:Qs 67108864 a) (b:Rat) (hsb:Qs 67108864 b):CallOK prog 183 [.agg (eQ a),.agg (eQ b)] [] (.agg (eQ (a - b))) []:=by
 refine zs func183 9 [.cell 4 41] results183 ?_
 simp only[aD,Aa]
 repeat'(first|refine zk ?_|(refine zu ?_ ?_<;>intro hc)|(refine zf (c231 b hsb) ?_)|(refine callV.flat (.agg (eQ (a - b))) c9m (by have:=c64 a hsa (-b) hsb.neg;rw[← Rat.sub_eq_add_neg]at this;exact this) rfl rfl ?_)|(refine zv ?_ ?_<;>intro hg)|omega|simp -dsimp (disch:=try exact zo)only[go_sem]|contradiction|rfl)
theorem sN (a:Rat) (hsa:Qs 67108864 a) (b:Rat) (hsb:Qs 67108864 b):CallOK prog 182 [.agg (eQ a),.agg (eQ b)] [] (.agg (eQ (a*b))) []:=by
 refine zs func182 22 [.cell 4 41] results182 ?_
 simp only[aD,Aa]
 have s1:=hsa.num
 have s2:=hsa.den'
 have s3:=hsb.num
 have s4:=hsb.den'
 have s5:=aP a.num b.num s1 s3
 have s7:=aP (a.den:Int) (b.den:Int) s2 s4
 repeat'(first|refine zk ?_|(refine zu ?_ ?_<;>intro hc)|(first|refine zf (lC a (Qs.mono hsa (by omega))) ?_|refine zf (lC b (Qs.mono hsb (by omega))) ?_)|(first|refine zf (mR a (Qs.mono hsa (by omega))) ?_|refine zf (mR b (Qs.mono hsb (by omega))) ?_)|(first|refine zf (cU (a.num) (b.num) (by omega) (by omega)) ?_|refine zf (cU ((a.den:Int)) ((b.den:Int)) (by omega) (by omega)) ?_)|(refine callV.flat (.tup [.agg (eQ (a*b)),.lit (.bool true)]) qI (by have:=lB (a.num*b.num) ((a.den:Int)*(b.den:Int)) (by omega) (by omega) (xO a b);rw[a2s a b]at this;exact this) rfl rfl ?_)|(refine zv ?_ ?_<;>intro hg)|omega|simp -dsimp (disch:=try exact zo)only[go_sem]|contradiction|rfl)
theorem c129 (a:Rat) (hsa:Qs 67108864 a) (b:Rat) (hsb:Qs 67108864 b) (h0:b≠0):CallOK prog 129 [.agg (eQ a),.agg (eQ b)] [] (.tup [.agg (eQ (a / b)),.lit (.bool true)]) []:=by
 refine zs func129 19 [.cell 4 41,.tmp 5] results129 ?_
 simp only[aD,Aa]
 have s1:=hsa.num
 have s2:=hsa.den'
 have s3:=hsb.num
 have s4:=hsb.den'
 have s5:=aP a.num (b.den:Int) s1 s4
 have s7:=aP (a.den:Int) b.num s2 s3
 have hne:(a.den:Int)*b.num≠0:=Int.mul_ne_zero (fP a) (fun h=>h0 (Rat.num_eq_zero.1 h))
 repeat'(first|refine zk ?_|(refine zu ?_ ?_<;>intro hc)|(first|refine zf (lC a (Qs.mono hsa (by omega))) ?_|refine zf (lC b (Qs.mono hsb (by omega))) ?_)|(first|refine zf (mR a (Qs.mono hsa (by omega))) ?_|refine zf (mR b (Qs.mono hsb (by omega))) ?_)|(first|refine zf (cU (a.num) ((b.den:Int)) (by omega) (by omega)) ?_|refine zf (cU ((a.den:Int)) (b.num) (by omega) (by omega)) ?_)|(refine callV.flat (.tup [.agg (eQ (a / b)),.lit (.bool true)]) qI (by have:=lB (a.num*(b.den:Int)) ((a.den:Int)*b.num) (by omega) (by omega) hne;rw[a2t a b]at this;exact this) rfl rfl ?_)|(refine zv ?_ ?_<;>intro hg)|omega|simp -dsimp (disch:=try exact zo)only[go_sem]|contradiction|rfl)
theorem c63 (a:Rat) (hsa:Qs 67108864 a):CallOK prog 63 [.agg (eQ a)] [] (.lit (.int .i64 (sg a.num))) []:=by
 refine zs func63 6 [.tmp 2] results63 ?_
 simp only[aD,Aa]
 have s1:=hsa.num
 have s2:=hsa.den'
 try have zh0:=(lC a (Qs.mono hsa (by omega)))
 try have zh1:=(c86w a.num (by omega))
 exact z1
theorem c230 (a:Rat) (hsa:Qs 67108864 a):CallOK prog 230 [.agg (eQ a)] [] (.agg (eQ a)) []:=by
 refine zs func230 14 [.cell 2 41] results230 ?_
 simp only[aD,Aa]
 have s1:=hsa.num
 have s2:=hsa.den'
 repeat'(first|refine zk ?_|(refine zu ?_ ?_<;>intro hc)|(refine zf (lC a (Qs.mono hsa (by omega))) ?_)|(refine zf (mR a (Qs.mono hsa (by omega))) ?_)|(refine callV.flat (.tup [.agg (eQ (a)),.lit (.bool true)]) qI (by have:=lB (a.num) ((a.den:Int)) (by omega) (by omega) (fP a);rw[b1e a]at this;exact this) rfl rfl ?_)|(refine zv ?_ ?_<;>intro hg)|omega|simp -dsimp (disch:=try exact zo)only[go_sem]|contradiction|rfl)
theorem pH (a:Rat) (hsa:Qs 67108864 a):CallOK prog 181 [.agg (eQ a)] [] (.tup [.agg (eZ a.num),.agg (eZ (a.den:Int))]) []:=by
 refine zs func181 11 [.cell 2 24,.cell 3 24] results181 ?_
 simp only[aD,Aa]
 try have zh0:=(c230 a hsa)
 try have zh1:=(lC a (Qs.mono hsa (by omega)))
 try have zh2:=(mR a (Qs.mono hsa (by omega)))
 exact z1
end Go.Proofs.Vx
