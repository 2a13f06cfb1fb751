import Derived.Test.YtjlfgmhmalbiiaaGreatDoorV29
set_option linter.all false
set_option maxHeartbeats 16000000
namespace Go.Proofs.Vx
open Go Go.Sx Go.Proofs Tryz
attribute [local irreducible] fnT CallOK CallFr AW aO callV aP aN aM aQ gcaseP hid
theorem c86z (z:Int) (h:(Zm z).size≤268435456):CallOK prog 86 [.agg (eZ z)] [] (.lit (.int .i64 (sg z))) []:=by
 have:=c86 (Zn z) (Zm z) (by omega)
 rw[bB]at this
 exact this
theorem c89z (z:Int) (h:(Zm z).size≤268435456):CallOK prog 89 [.agg (eZ z)] [] (.agg (eZ (-z))) []:=by
 have:=c89 (Zn z) (Zm z) (by omega)
 rw[bB]at this
 exact this
theorem iI (z:Int) (g:Nat) (hg:0<g) (hd:(g:Int)∣z) (h:(Zm z).size≤268435456) (hgs:(nb g).size≤268435456):CallOK prog 90 [.agg (eZ z),.agg [.lit (.bool false),.lit (.string (nb g))]] [] (.tup [.agg (eZ (z / (g:Int))),.agg (eZ 0),.lit (.bool true)]) []:=by
 have:=c90 (Zn z) (Zm z) g hg (by rw[aT];exact Int.ofNat_dvd_left.1 hd) h hgs
 rw[bB]at this
 exact this
theorem c88z (x y z w : Int) (h1 : (Zm x).size ≤ 268435456) (h2 : (Zm y).size ≤ 268435456) (h3 : (Zm z).size ≤ 268435456) (h4 : (Zm w).size ≤ 268435456) :
  CallOK prog 88 [.sl [eZ x,eZ y,eZ z,eZ w]] [] (.agg [.lit (.bool false),.lit (.string (nb (g4 x y z w)))]) []:=by
 have:=c88x (Zn x) (Zn y) (Zn z) (Zn w) (Zm x) (Zm y) (Zm z) (Zm w) h1 h2 h3 h4
 simp only[bB]at this
 exact this
theorem c1y {x y z w:Int} {k:Nat} (hx:(Zm x).size≤k) (hy:(Zm y).size≤k) (hz:(Zm z).size≤k) (hw:(Zm w).size≤k):(nb (g4 x y z w)).size≤k:=by
 unfold g4
 rw[← aT x,← aT y,← aT z,← aT w]
 exact nF (nF (nF (Nat.le_trans (dF _) hx) (Nat.le_trans (dF _) hy)) (Nat.le_trans (dF _) hz)) (Nat.le_trans (dF _) hw)
theorem mI {n:Bool} {m:ByteArray} {k:Nat} (h:m.size≤k):(Zm (iv n m)).size≤k:=Nat.le_trans (dL n m) h
set_option maxRecDepth 20000 in
theorem c29 (n1 n2 n3 n4:Bool) (m1 m2 m3 m4:ByteArray) (h1:m1.size≤268435456) (h2:m2.size≤268435456) (h3:m3.size≤268435456) (h4:m4.size≤268435456):CallOK prog 29 [.agg [.lit (.bool n1),.lit (.string m1),.lit (.bool n2),.lit (.string m2),.lit (.bool n3),.lit (.string m3),.lit (.bool n4),.lit (.string m4)]] [] (.agg (eP (nrm (iv n1 m1) (iv n2 m2) (iv n3 m3) (iv n4 m4)))) []:=by
 refine zs func29 76 [.cell 2 51] results29 ?_
 simp only[aD,Nat.reduceAdd]
 have hml:maxLen=9223372036854775807:=rfl
 have N1:=c85 n1 m1 (by omega)
 have N2:=c85 n2 m2 (by omega)
 have N3:=c85 n3 m3 (by omega)
 have N4:=c85 n4 m4 (by omega)
 have zx:=mI (n:=n1) h1
 have zy:=mI (n:=n2) h2
 have zz:=mI (n:=n3) h3
 have zw:=mI (n:=n4) h4
 generalize iv n1 m1=x at *
 generalize iv n2 m2=y at *
 generalize iv n3 m3=z at *
 generalize iv n4 m4=w at *
 have s0:=c86z w zw
 have zW:(Zm (nz w)).size≤268435456:=zP zw (by decide)
 have sW:=c86z (nz w) zW
 have cg:=c88z x y z (nz w) zx zy zz zW
 obtain⟨e1,e2,e3,e4'⟩:=kV x y z (nz w)
 have hG:=sX (x:=x) (y:=y) (z:=z) (qC w)
 have hGs:=c1y zx zy zz zW
 unfold nrm
 unfold turn
 by_cases hw0:w=0
 ·have hz:nz w=1:=if_pos hw0
  have k0:(sg w=0)=True:=eq_true (fT.2 hw0)
  have c1:=c87 1 (by decide) (by decide)
  simp only[hz]at s0 zW sW cg e1 e2 e3 e4' hG hGs ⊢
  have kW:(sg 1<0)=False:=eq_false (by decide)
  have hn:¬ (1:Int)<0:=by decide
  simp only[if_neg hn]
  have t1:True:=trivial
  have d1:=iI x _ hG e1 zx hGs
  have t2:True:=trivial
  have d2:=iI y _ hG e2 zy hGs
  have t3:True:=trivial
  have d3:=iI z _ hG e3 zz hGs
  have t4:True:=trivial
  have d4:=iI 1 _ hG e4' zW hGs
  clear e1 e2 e3 e4' hG hGs zx zy zz zw zW hz
  generalize g4 x y z 1=G at *
  clear hw0
  repeat'(first|refine zg ?_|refine bQ 6 ?_|(refine zc ?_ ?_<;>intro hc<;>first|simp only[NM]at hc|omega|skip)|refine zr ?_|(first|refine zf N1 ?_|refine zf N2 ?_|refine zf N3 ?_|refine zf N4 ?_)|(first|refine zf sW ?_|refine zf s0 ?_)|(refine zf c1 ?_)|(refine gZ _ jS cg rfl rfl (by simp -dsimp (disch:=try exact zo)only[go_sem,eZ]) (.agg _ (by intro c hc;simp only[zM,or_false]at hc;rcases hc with rfl|rfl<;>exact .lit _)) ?_)|(first|refine zf t1 ?_|refine zf t2 ?_|refine zf t3 ?_|refine zf t4 ?_)|(first|refine zf d1 ?_|refine zf d2 ?_|refine zf d3 ?_|refine zf d4 ?_)|refine⟨by omega,?_⟩|(refine zb ?_ ?_<;>intro hg<;>(try rw[hg])<;>try simp only[NM]at hg)|omega|simp -dsimp (disch:=try exact zo)only[go_sem,k0,kW]|contradiction|rfl)
 ·have hz:nz w=w:=if_neg hw0
  have k0:(sg w=0)=False:=eq_false fun h=>hw0 (fT.1 h)
  have c1:True:=trivial
  simp only[hz]at s0 zW sW cg e1 e2 e3 e4' hG hGs ⊢
  by_cases hn:w<0
  ·have kW:(sg w<0)=True:=eq_true (mD.2 hn)
   simp only[if_pos hn]
   have t1:=c89z x zx
   have d1:=iI (-x) _ hG (Int.dvd_neg.2 e1) (Nat.le_trans (g9 (by simp)) zx) hGs
   rw[Int.neg_ediv_of_dvd e1]at d1
   have t2:=c89z y zy
   have d2:=iI (-y) _ hG (Int.dvd_neg.2 e2) (Nat.le_trans (g9 (by simp)) zy) hGs
   rw[Int.neg_ediv_of_dvd e2]at d2
   have t3:=c89z z zz
   have d3:=iI (-z) _ hG (Int.dvd_neg.2 e3) (Nat.le_trans (g9 (by simp)) zz) hGs
   rw[Int.neg_ediv_of_dvd e3]at d3
   have t4:=c89z w zW
   have d4:=iI (-w) _ hG (Int.dvd_neg.2 e4') (Nat.le_trans (g9 (by simp)) zW) hGs
   rw[Int.neg_ediv_of_dvd e4']at d4
   clear e1 e2 e3 e4' hG hGs zx zy zz zw zW hz
   generalize g4 x y z w=G at *
   clear hw0 hn
   repeat'(first|refine zg ?_|refine bQ 6 ?_|(refine zc ?_ ?_<;>intro hc<;>first|simp only[NM]at hc|omega|skip)|refine zr ?_|(first|refine zf N1 ?_|refine zf N2 ?_|refine zf N3 ?_|refine zf N4 ?_)|(first|refine zf sW ?_|refine zf s0 ?_)|(refine zf c1 ?_)|(refine gZ _ jS cg rfl rfl (by simp -dsimp (disch:=try exact zo)only[go_sem,eZ]) (.agg _ (by intro c hc;simp only[zM,or_false]at hc;rcases hc with rfl|rfl<;>exact .lit _)) ?_)|(first|refine zf t1 ?_|refine zf t2 ?_|refine zf t3 ?_|refine zf t4 ?_)|(first|refine zf d1 ?_|refine zf d2 ?_|refine zf d3 ?_|refine zf d4 ?_)|refine⟨by omega,?_⟩|(refine zb ?_ ?_<;>intro hg<;>(try rw[hg])<;>try simp only[NM]at hg)|omega|simp -dsimp (disch:=try exact zo)only[go_sem,k0,kW]|contradiction|rfl)
  ·have kW:(sg w<0)=False:=eq_false fun h=>hn (mD.1 h)
   simp only[if_neg hn]
   have t1:True:=trivial
   have d1:=iI x _ hG e1 zx hGs
   have t2:True:=trivial
   have d2:=iI y _ hG e2 zy hGs
   have t3:True:=trivial
   have d3:=iI z _ hG e3 zz hGs
   have t4:True:=trivial
   have d4:=iI w _ hG e4' zW hGs
   clear e1 e2 e3 e4' hG hGs zx zy zz zw zW hz
   generalize g4 x y z w=G at *
   clear hw0 hn
   repeat'(first|refine zg ?_|refine bQ 6 ?_|(refine zc ?_ ?_<;>intro hc<;>first|simp only[NM]at hc|omega|skip)|refine zr ?_|(first|refine zf N1 ?_|refine zf N2 ?_|refine zf N3 ?_|refine zf N4 ?_)|(first|refine zf sW ?_|refine zf s0 ?_)|(refine zf c1 ?_)|(refine gZ _ jS cg rfl rfl (by simp -dsimp (disch:=try exact zo)only[go_sem,eZ]) (.agg _ (by intro c hc;simp only[zM,or_false]at hc;rcases hc with rfl|rfl<;>exact .lit _)) ?_)|(first|refine zf t1 ?_|refine zf t2 ?_|refine zf t3 ?_|refine zf t4 ?_)|(first|refine zf d1 ?_|refine zf d2 ?_|refine zf d3 ?_|refine zf d4 ?_)|refine⟨by omega,?_⟩|(refine zb ?_ ?_<;>intro hg<;>(try rw[hg])<;>try simp only[NM]at hg)|omega|simp -dsimp (disch:=try exact zo)only[go_sem,k0,kW]|contradiction|rfl)
end Go.Proofs.Vx
namespace Go.Proofs.Vx
open Go Go.Sx Go.Proofs Tryz
attribute [local irreducible] fnT CallOK CallFr AW aO callV aP aN aM aQ gcaseP hid
theorem c174 (a b:ByteArray) (ha:a.size<1099511627776) (hb:b.size<1099511627776):CallOK prog 174 [.lit (.string a),.lit (.string b)] [] (.lit (.string (nb (nv a+nv b)))) []:=by
 refine zs func174 45 [.tmp 4] results174 ?_
 simp only[aD,Nat.reduceAdd]
 have hml:maxLen=9223372036854775807:=rfl
 have hi0:aJ .u8 []=[]:=rfl
 obtain⟨M,h1,h2,h3⟩:∃ M,a.size≤M∧b.size≤M∧M<1099511627776:=⟨max a.size b.size,by omega,by omega,by omega⟩
 repeat'(first|refine zg ?_|(refine zc ?_ ?_<;>intro hc<;>first|simp only[NM]at hc|omega|skip)|refine zr ?_|refine⟨by omega,?_⟩|(refine zb ?_ ?_<;>intro hg<;>(try rw[hg])<;>try simp only[NM]at hg)|omega|simp -dsimp (disch:=try exact zo)only[go_sem]|contradiction|rfl)
 refine AW.loop (fun z:{p:Nat × List Int × Int // p.1≤M+1∧gB p.2.1∧p.2.1.length=p.1∧(0≤p.2.2∧p.2.2≤1)∧w8 p.2.1+p.2.2*256 ^ p.1=bR a p.1+bR b p.1∧(p.1=M+1→p.2.2=0)}=>⟨[(7,.lit (.int .i64 z.1.1)),(6,.lit (.int .i64 z.1.2.2)),(5,.ref 9 0 z.1.1 z.1.1),(0,.lit (.string a)),(1,.lit (.string b))],[(9,.vec 1 (aJ .u8 z.1.2.1))],40⟩) (fun z=>M+2 - z.1.1) ⟨(0,[],0),Nat.zero_le _,fun x hx=>by simp at hx,rfl,by dsimp only;omega,by simp[w8,uN],fun _=>rfl⟩ (aH (by refine⟨?_,?_,?_,?_⟩<;>simp -dsimp (disch:=try exact zo)only[go_sem,aU,hi0,ZC])) ?_
 rintro⟨⟨i,X,c⟩,hi,dX,hX,hc1,hv,hM⟩
 dsimp only at hi dX hX hc1 hv hM ⊢
 have b1:=i9 a i
 have b2:=i9 b i
 by_cases hgo:(i<a.size∨i<b.size)∨0<c
 ·have hiM:i≤M:=by
   apply Classical.byContradiction
   intro hn
   have:=hM (by omega)
   omega
  have z1:a.size≤i→bt a i=0:=fun h=>zO h
  have z2:b.size≤i→bt b i=0:=fun h=>zO h
  have hM2:i=M→(c+(bt a i+bt b i)) / 256=0:=fun h=>by have:=z1 (by omega);have:=z2 (by omega);omega
  clear z1 z2 hM
  have hXl:(X++[0]).length=i+1:=by simp[hX]
  have gw:Hid (w8 (X++[(c+(bt a i+bt b i)) % 256])+(c+(bt a i+bt b i)) / 256*256 ^ (i+1)=bR a (i+1)+bR b (i+1)):=Hid.mk (by
   have e1:=oS a i
   have e2:=oS b i
   rw[a1x,hX,e1,e2,nC]
   simp only[w8]
   have:(c+(bt a i+bt b i)) % 256=(c+(bt a i+bt b i)) - 256*((c+(bt a i+bt b i)) / 256):=by omega
   rw[this]
   generalize (c+(bt a i+bt b i)) / 256=q at *
   grind)
  clear hv
  by_cases q1:i<a.size
  ·have k1:((i:Int)<(a.size:Int))=True:=eq_true (by omega)
   have k2:True:=trivial
   have k3:True:=trivial
   have hd:0≤(c+(bt a i+bt b i)) % 256∧(c+(bt a i+bt b i)) % 256<256:=by omega
   have wd:IntKind.u8.wrap ((c+(bt a i+bt b i)) % 256)=(c+(bt a i+bt b i)) % 256:=jT hd.1 hd.2
   have dX1:=oZ dX hd
   repeat'(first|refine zg ?_|(refine zc ?_ ?_<;>intro hc<;>first|simp only[NM]at hc|omega|skip)|refine zr ?_|(first|refine zf (iZ a i (by omega)) ?_|refine zf (iZ b i (by omega)) ?_)|refine⟨by omega,?_⟩|(refine zb ?_ ?_<;>intro hg<;>(try rw[hg])<;>try simp only[NM]at hg)|omega|simp -dsimp (disch:=try exact zo)only[go_sem,k1,k2,k3,wd,ZT,b5,gE,hX]|contradiction|rfl)
   all_goals exact AW.stop ⟨⟨(i+1,X++[(c+(bt a i+bt b i)) % 256],(c+(bt a i+bt b i)) / 256),by dsimp only;omega,dX1,by simp[hX],by dsimp only;omega,gw.out,by dsimp only;omega⟩,(aH (by refine⟨?_,?_,?_,?_⟩<;>first|(simp -dsimp (disch:=try exact zo)only[go_sem,ZC,hXl,gE];done)|(simp -dsimp (disch:=try exact zo)only[go_sem,aU,ZC];done))),by dsimp only;omega⟩
  ·have k1:((i:Int)<(a.size:Int))=False:=eq_false (by omega)
   by_cases q2:i<b.size
   ·have k2:((i:Int)<(b.size:Int))=True:=eq_true (by omega)
    have k3:True:=trivial
    have hd:0≤(c+(bt a i+bt b i)) % 256∧(c+(bt a i+bt b i)) % 256<256:=by omega
    have wd:IntKind.u8.wrap ((c+(bt a i+bt b i)) % 256)=(c+(bt a i+bt b i)) % 256:=jT hd.1 hd.2
    have dX1:=oZ dX hd
    repeat'(first|refine zg ?_|(refine zc ?_ ?_<;>intro hc<;>first|simp only[NM]at hc|omega|skip)|refine zr ?_|(first|refine zf (iZ a i (by omega)) ?_|refine zf (iZ b i (by omega)) ?_)|refine⟨by omega,?_⟩|(refine zb ?_ ?_<;>intro hg<;>(try rw[hg])<;>try simp only[NM]at hg)|omega|simp -dsimp (disch:=try exact zo)only[go_sem,k1,k2,k3,wd,ZT,b5,gE,hX]|contradiction|rfl)
    all_goals exact AW.stop ⟨⟨(i+1,X++[(c+(bt a i+bt b i)) % 256],(c+(bt a i+bt b i)) / 256),by dsimp only;omega,dX1,by simp[hX],by dsimp only;omega,gw.out,by dsimp only;omega⟩,(aH (by refine⟨?_,?_,?_,?_⟩<;>first|(simp -dsimp (disch:=try exact zo)only[go_sem,ZC,hXl,gE];done)|(simp -dsimp (disch:=try exact zo)only[go_sem,aU,ZC];done))),by dsimp only;omega⟩
   ·have k2:((i:Int)<(b.size:Int))=False:=eq_false (by omega)
    have k3:(0<c)=True:=eq_true (by omega)
    have hd:0≤(c+(bt a i+bt b i)) % 256∧(c+(bt a i+bt b i)) % 256<256:=by omega
    have wd:IntKind.u8.wrap ((c+(bt a i+bt b i)) % 256)=(c+(bt a i+bt b i)) % 256:=jT hd.1 hd.2
    have dX1:=oZ dX hd
    repeat'(first|refine zg ?_|(refine zc ?_ ?_<;>intro hc<;>first|simp only[NM]at hc|omega|skip)|refine zr ?_|(first|refine zf (iZ a i (by omega)) ?_|refine zf (iZ b i (by omega)) ?_)|refine⟨by omega,?_⟩|(refine zb ?_ ?_<;>intro hg<;>(try rw[hg])<;>try simp only[NM]at hg)|omega|simp -dsimp (disch:=try exact zo)only[go_sem,k1,k2,k3,wd,ZT,b5,gE,hX]|contradiction|rfl)
    all_goals exact AW.stop ⟨⟨(i+1,X++[(c+(bt a i+bt b i)) % 256],(c+(bt a i+bt b i)) / 256),by dsimp only;omega,dX1,by simp[hX],by dsimp only;omega,gw.out,by dsimp only;omega⟩,(aH (by refine⟨?_,?_,?_,?_⟩<;>first|(simp -dsimp (disch:=try exact zo)only[go_sem,ZC,hXl,gE];done)|(simp -dsimp (disch:=try exact zo)only[go_sem,aU,ZC];done))),by dsimp only;omega⟩
 ·have k1:((i:Int)<(a.size:Int))=False:=eq_false (by omega)
  have k2:((i:Int)<(b.size:Int))=False:=eq_false (by omega)
  have k3:(0<c)=False:=eq_false (by omega)
  have hfin:nb (nv ⟨(ofI X).toArray⟩)=nb (nv a+nv b):=by
   congr 1
   have e1:=sQ X dX
   have e2:=oW (m:=a) (i:=i) (by omega)
   have e3:=oW (m:=b) (i:=i) (by omega)
   have e4:c=0:=by omega
   rw[e2,e3,e4]at hv
   omega
  clear hv hM
  repeat'(first|refine zg ?_|(refine zc ?_ ?_<;>intro hc<;>first|simp only[NM]at hc|omega|skip)|refine zr ?_|refine⟨by omega,?_⟩|(refine zb ?_ ?_<;>intro hg<;>(try rw[hg])<;>try simp only[NM]at hg)|omega|simp -dsimp (disch:=try exact zo)only[go_sem,hX,b5,k1,k2,k3]|contradiction|rfl)
  all_goals
   refine⟨ofI X,by first|exact g6 _ dX|(rw[List.take_of_length_le (by first|omega|(rw[b5];omega))];exact g6 _ dX),?_⟩
   repeat'(first|refine zg ?_|(refine zc ?_ ?_<;>intro hc<;>first|simp only[NM]at hc|omega|skip)|refine zr ?_|(refine zf (gM _ (by rw[r6];omega)) ?_)|refine⟨by omega,?_⟩|(refine zb ?_ ?_<;>intro hg<;>(try rw[hg])<;>try simp only[NM]at hg)|omega|simp -dsimp (disch:=try exact zo)only[go_sem,hfin]|contradiction|rfl)
end Go.Proofs.Vx
namespace Go.Proofs.Vx
open Go Go.Sx Go.Proofs Tryz
attribute [local irreducible] fnT CallOK CallFr AW aO callV aP aN aM aQ gcaseP hid
theorem b4y:boT prog 24=false∧Tryz.prog.eqGuardType Tryz.prog.depth 24=false∧lfT prog 30 24=some [.b,.s]:=by and_intros<;>kernel_rfl
attribute [go_sem] b4y
theorem c3l:fnT prog 64=true:=by kernel_rfl
theorem b9y:fnT prog 114=true:=by kernel_rfl
theorem o9:fnT prog 134=true:=by kernel_rfl
theorem jP:fnT prog 152=true:=by kernel_rfl
theorem j0 (n:Bool) (k:Nat) (z:Int) (hk:(nb k).size<4611686018427387904) (h:z=if n then -(k:Int)else k):CallOK prog 152 [.lit (.bool n),.lit (.string (nb k))] [] (.agg (eZ z)) []:=by
 have:=mW n (nb k) hk
 have e:iv n (nb k)=z:=by rw[h];unfold iv;rw[aZ]
 rwa [e]at this
theorem mulS (x y:Int):x*y=if (!(Zn x == Zn y))=true then -((nv (Zm x)*nv (Zm y):Nat):Int)else ((nv (Zm x)*nv (Zm y):Nat):Int):=by
 have h1:((nv (Zm x)*nv (Zm y):Nat):Int)=((x*y).natAbs:Int):=by rw[aT,aT,Int.natAbs_mul]
 rw[h1]
 unfold Zn
 by_cases h:x<0<;>by_cases h':y<0<;>simp[h,h']
 ·have:=Int.mul_nonneg_of_nonpos_of_nonpos (Int.le_of_lt h) (Int.le_of_lt h');omega
 ·have:=Int.mul_nonpos_of_nonpos_of_nonneg (Int.le_of_lt h) (show 0≤y by omega);omega
 ·have:=Int.mul_nonpos_of_nonneg_of_nonpos (show 0≤x by omega) (Int.le_of_lt h');omega
 ·have:=Int.mul_nonneg (show 0≤x by omega) (show 0≤y by omega);omega
theorem nbm (x y:Int):(nb (nv (Zm x)*nv (Zm y))).size≤(Zm x).size+(Zm y).size:=by
 have:=aR x y (Nat.le_refl _) (Nat.le_refl _)
 have e:nv (Zm x)*nv (Zm y)=(x*y).natAbs:=by rw[aT,aT,Int.natAbs_mul]
 rw[e];exact this
theorem cH (x y:Int) (hx:(Zm x).size<549755813888) (hy:(Zm y).size<549755813888):CallOK prog 112 [.agg (eZ x),.agg (eZ y)] [] (.agg (eZ (x*y))) []:=by
 refine zs func112 16 [.cell 4 24] results112 ?_
 simp only[aD,Nat.reduceAdd]
 have hs:=nbm x y
 repeat'(first|refine zg ?_|(refine zc ?_ ?_<;>intro hc<;>try simp only[NM]at hc)|refine zr ?_|(refine zf (c173 (Zm x) (Zm y) (by omega) (by omega)) ?_)|(refine callV.flat (.agg (eZ (x*y))) jP (j0 _ _ _ (by omega) (mulS x y)) rfl rfl ?_)|refine⟨by omega,?_⟩|(refine zb ?_ ?_<;>intro hg<;>(try rw[hg])<;>try simp only[NM]at hg)|omega|simp -dsimp (disch:=try exact zo)only[go_sem]|contradiction|rfl)
theorem c175f (a b:ByteArray) (ha:a.size<1099511627776) (hb:b.size<1099511627776) (hle:nv a<nv b):CallOK prog 175 [.lit (.string a),.lit (.string b)] [] (.tup [.lit (.string ⟨#[]⟩),.lit (.bool false)]) []:=by
 refine zs func175 42 [.tmp 4,.tmp 5] results175 ?_
 simp only[aD,Nat.reduceAdd]
 have c207x:=c207 a b ha hb
 have hc0:bT (nv a) (nv b)<0:=by unfold bT;rw[if_pos hle];decide
 generalize bT (nv a) (nv b)=cm at *
 have k0:(cm<0)=True:=eq_true hc0
 repeat'(first|refine zg ?_|(refine zc ?_ ?_<;>intro hc<;>first|simp only[NM]at hc|omega|skip)|refine zr ?_|(refine zf c207x ?_)|refine⟨by omega,?_⟩|(refine zb ?_ ?_<;>intro hg<;>(try rw[hg])<;>try simp only[NM]at hg)|omega|simp -dsimp (disch:=try exact zo)only[go_sem,k0]|contradiction|rfl)
theorem tP (x y:Int) (hx:(Zm x).size<549755813888) (hy:(Zm y).size<549755813888):CallOK prog 114 [.agg (eZ x),.agg (eZ y)] [] (.agg (eZ (x+y))) []:=by
 refine zs func114 45 [.cell 4 24] results114 ?_
 simp only[aD,Nat.reduceAdd]
 have n1:(nb (nv (Zm x)+nv (Zm y))).size≤(Zm x).size+(Zm y).size+1:=by
  rw[cD,aT,aT,Nat.pow_succ,Nat.pow_add]
  have h1:=rG x
  have h2:=rG y
  have h3:1≤256 ^ (Zm x).size:=Nat.pow_pos (by decide)
  have h4:1≤256 ^ (Zm y).size:=Nat.pow_pos (by decide)
  have h5:=Nat.mul_le_mul_left (256 ^ (Zm x).size) h4
  have h6:=Nat.mul_le_mul_right (256 ^ (Zm y).size) h3
  omega
 have n2:(nb (nv (Zm x) - nv (Zm y))).size≤(Zm x).size:=Nat.le_trans (pC (Nat.sub_le _ _)) (dF _)
 have n3:(nb (nv (Zm y) - nv (Zm x))).size≤(Zm y).size:=Nat.le_trans (pC (Nat.sub_le _ _)) (dF _)
 by_cases hs:Zn x=Zn y
 ·have hT:=eq_true hs
  repeat'(first|refine zg ?_|(refine zc ?_ ?_<;>intro hc<;>try simp only[NM]at hc)|refine zr ?_|(refine zf (c174 (Zm x) (Zm y) (by omega) (by omega)) ?_)|(first|refine zf ca ?_|refine zf cb ?_)|(first|refine callV.flat (.agg (eZ (x+y))) jP (j0 (Zn x) _ _ (by omega) (p5 hs)) rfl rfl ?_|refine callV.flat (.agg (eZ (x+y))) jP (j0 (Zn x) _ _ (by omega) (pZ hs hle)) rfl rfl ?_|refine callV.flat (.agg (eZ (x+y))) jP (j0 (Zn y) _ _ (by omega) (pY hs hle)) rfl rfl ?_)|refine⟨by omega,?_⟩|(refine zb ?_ ?_<;>intro hg<;>(try rw[hg])<;>try simp only[NM]at hg)|omega|simp -dsimp (disch:=try exact zo)only[go_sem,hT]|contradiction|rfl)
 ·have hT:=eq_false hs
  by_cases hle:y.natAbs≤x.natAbs
  ·have ca:=c175 (Zm x) (Zm y) (by omega) (by omega) (by rw[aT,aT];exact hle)
   have cb:True:=trivial
   repeat'(first|refine zg ?_|(refine zc ?_ ?_<;>intro hc<;>try simp only[NM]at hc)|refine zr ?_|(refine zf (c174 (Zm x) (Zm y) (by omega) (by omega)) ?_)|(first|refine zf ca ?_|refine zf cb ?_)|(first|refine callV.flat (.agg (eZ (x+y))) jP (j0 (Zn x) _ _ (by omega) (p5 hs)) rfl rfl ?_|refine callV.flat (.agg (eZ (x+y))) jP (j0 (Zn x) _ _ (by omega) (pZ hs hle)) rfl rfl ?_|refine callV.flat (.agg (eZ (x+y))) jP (j0 (Zn y) _ _ (by omega) (pY hs hle)) rfl rfl ?_)|refine⟨by omega,?_⟩|(refine zb ?_ ?_<;>intro hg<;>(try rw[hg])<;>try simp only[NM]at hg)|omega|simp -dsimp (disch:=try exact zo)only[go_sem,hT]|contradiction|rfl)
  ·have ca:=c175f (Zm x) (Zm y) (by omega) (by omega) (by rw[aT,aT];omega)
   have cb:=c175 (Zm y) (Zm x) (by omega) (by omega) (by rw[aT,aT];omega)
   repeat'(first|refine zg ?_|(refine zc ?_ ?_<;>intro hc<;>try simp only[NM]at hc)|refine zr ?_|(refine zf (c174 (Zm x) (Zm y) (by omega) (by omega)) ?_)|(first|refine zf ca ?_|refine zf cb ?_)|(first|refine callV.flat (.agg (eZ (x+y))) jP (j0 (Zn x) _ _ (by omega) (p5 hs)) rfl rfl ?_|refine callV.flat (.agg (eZ (x+y))) jP (j0 (Zn x) _ _ (by omega) (pZ hs hle)) rfl rfl ?_|refine callV.flat (.agg (eZ (x+y))) jP (j0 (Zn y) _ _ (by omega) (pY hs hle)) rfl rfl ?_)|refine⟨by omega,?_⟩|(refine zb ?_ ?_<;>intro hg<;>(try rw[hg])<;>try simp only[NM]at hg)|omega|simp -dsimp (disch:=try exact zo)only[go_sem,hT]|contradiction|rfl)
theorem oD (z:Int) (h:(Zm z).size<4611686018427387904):CallOK prog 89 [.agg (eZ z)] [] (.agg (eZ (-z))) []:=by
 have:=c89 (Zn z) (Zm z) (by omega)
 rw[bB]at this
 exact this
theorem c86w (z:Int) (h:(Zm z).size<4611686018427387904):CallOK prog 86 [.agg (eZ z)] [] (.lit (.int .i64 (sg z))) []:=by
 have:=c86 (Zn z) (Zm z) (by omega)
 rw[bB]at this
 exact this
theorem lH (z:Int) (h:(Zm z).size<4611686018427387904):CallOK prog 85 [.agg (eZ z)] [] (.agg (eZ z)) []:=by
 have:=c85 (Zn z) (Zm z) (by omega)
 rw[bB]at this
 exact this
theorem c157 (x y:Int) (hx:(Zm x).size<549755813888) (hy:(Zm y).size<549755813888):CallOK prog 157 [.agg (eZ x),.agg (eZ y)] [] (.agg (eZ (x - y))) []:=by
 refine zs func157 9 [.cell 4 24] results157 ?_
 simp only[aD,Nat.reduceAdd]
 repeat'(first|refine zg ?_|(refine zc ?_ ?_<;>intro hc<;>try simp only[NM]at hc)|refine zr ?_|(refine zf (oD y (by omega)) ?_)|(refine callV.flat (.agg (eZ (x - y))) b9y (by have:=tP x (-y) hx (by rw[iN];exact hy);rw[← Int.sub_eq_add_neg]at this;exact this) rfl rfl ?_)|refine⟨by omega,?_⟩|(refine zb ?_ ?_<;>intro hg<;>(try rw[hg])<;>try simp only[NM]at hg)|omega|simp -dsimp (disch:=try exact zo)only[go_sem]|contradiction|rfl)
theorem c113 (x y:Int) (hx:(Zm x).size<549755813888) (hy:(Zm y).size<549755813888):CallOK prog 113 [.agg (eZ x),.agg (eZ y)] [] (.lit (.int .i64 (sg (x - y)))) []:=by
 refine zs func113 9 [.tmp 4] results113 ?_
 simp only[aD,Nat.reduceAdd]
 have h1:=zs_sub x y (k:=549755813888) (by omega) (by omega)
 repeat'(first|refine zg ?_|(refine zc ?_ ?_<;>intro hc<;>try simp only[NM]at hc)|refine zr ?_|(refine zf (c157 x y hx hy) ?_)|(refine zf (c86w (x - y) (by omega)) ?_)|refine⟨by omega,?_⟩|(refine zb ?_ ?_<;>intro hg<;>(try rw[hg])<;>try simp only[NM]at hg)|omega|simp -dsimp (disch:=try exact zo)only[go_sem]|contradiction|rfl)
theorem j6 (q:Rat) (h:Qs 4294967296 q):CallOK prog 133 [.agg (eQ q)] [] (.agg (eZ q.num)) []:=by
 refine zs func133 9 [.cell 2 24] results133 ?_
 simp only[aD,Nat.reduceAdd]
 have h1:=h.num
 repeat'(first|refine zg ?_|(refine zc ?_ ?_<;>intro hc<;>try simp only[NM]at hc)|refine zr ?_|(refine zf (lH q.num (by omega)) ?_)|refine⟨by omega,?_⟩|(refine zb ?_ ?_<;>intro hg<;>(try rw[hg])<;>try simp only[NM]at hg)|omega|simp -dsimp (disch:=try exact zo)only[go_sem]|contradiction|rfl)
theorem tO  : CallOK prog 136 [] [] (.agg (eZ 1)) []:=by
 refine zs func136 2 [.cell 0 24] results136 ?_
 simp only[aD,Nat.reduceAdd]
 repeat'(first|refine zg ?_|(refine zc ?_ ?_<;>intro hc<;>try simp only[NM]at hc)|refine zr ?_|(refine zf (c87 1 (by decide) (by decide)) ?_)|refine⟨by omega,?_⟩|(refine zb ?_ ?_<;>intro hg<;>(try rw[hg])<;>try simp only[NM]at hg)|omega|simp -dsimp (disch:=try exact zo)only[go_sem]|contradiction|rfl)
theorem lJ (q:Rat) (h:Qs 4294967296 q):CallOK prog 135 [.agg (eQ q)] [] (.agg (eZ (q.den:Int))) []:=by
 refine zs func135 13 [.cell 2 24] results135 ?_
 simp only[aD,Nat.reduceAdd]
 have h2:=h.den
 rw[nT]
 by_cases hd:q.den=1
 ·have hq:Qd q=⟨#[]⟩:=if_pos hd
  have e:nb (nv (Qd q))=⟨#[]⟩:=by rw[hq,← dG,aZ]
  have e1:eZ 1=[.lit (.bool false),.lit (.string (nb q.den))]:=by rw[hd];simp[eZ,Zn,Zm]
  have eT:True:=trivial
  have qs:(Qd q).size=0:=by rw[hq];rfl
  have c85q:=c85 false (Qd q) (by omega)
  have ez:iv false (Qd q)=((nv (Qd q):Nat):Int):=rfl
  rw[ez,nT,e]at c85q
  have c136v:=tO
  rw[e1]at c136v
  repeat'(first|refine zg ?_|(refine zc ?_ ?_<;>intro hc<;>try simp only[NM]at hc)|refine zr ?_|(refine zf c85q ?_)|(refine zf c136v ?_)|refine⟨by omega,?_⟩|(refine zb ?_ ?_<;>intro hg<;>(try rw[hg])<;>try simp only[NM]at hg)|omega|simp -dsimp (disch:=try exact zo)only[go_sem,eT]|contradiction|rfl)
 ·have hq:Qd q=nb q.den:=if_neg hd
  have e:nb (nv (Qd q))=nb q.den:=by rw[hq,aZ]
  have eT:(nb q.den=⟨#[]⟩)=False:=eq_false fun h=>q.den_nz ((fO _).1 h)
  have qs:(Qd q).size≤4294967296:=by rw[hq];exact h2
  have c85q:=c85 false (Qd q) (by omega)
  have ez:iv false (Qd q)=((nv (Qd q):Nat):Int):=rfl
  rw[ez,nT,e]at c85q
  have c136v:True:=trivial
  repeat'(first|refine zg ?_|(refine zc ?_ ?_<;>intro hc<;>try simp only[NM]at hc)|refine zr ?_|(refine zf c85q ?_)|(refine zf c136v ?_)|refine⟨by omega,?_⟩|(refine zb ?_ ?_<;>intro hg<;>(try rw[hg])<;>try simp only[NM]at hg)|omega|simp -dsimp (disch:=try exact zo)only[go_sem,eT]|contradiction|rfl)
theorem b0g {n d:Int} (h0:d≠0):(Rat.divInt n d).num=0↔n=0:=by
 constructor
 ·intro e
  have h1:=vS (n:=n) h0
  rw[e]at h1
  have h2:=Nat.div_mul_cancel (Nat.gcd_dvd_left n.natAbs d.natAbs)
  rw[h1]at h2
  have:n.natAbs=0:=by rw[← h2];exact Nat.zero_mul _
  omega
 ·rintro rfl
  rw[Rat.zero_divInt];rfl
theorem c88y (n d:Int) (hn:(Zm n).size≤268435456) (hd:(Zm d).size≤268435456):CallOK prog 88 [.sl [[.lit (.bool false),.lit (.string (Zm n))],[.lit (.bool false),.lit (.string (Zm d))]]] [] (.agg [.lit (.bool false),.lit (.string (nb (Nat.gcd n.natAbs d.natAbs)))]) []:=by
 have:=c88 [(false,Zm n),(false,Zm d)] (by simp) (fun r hr=>by simp at hr;rcases hr with rfl|rfl<;>assumption)
 have e:gT [(false,Zm n),(false,Zm d)] 2=Nat.gcd n.natAbs d.natAbs:=by
  unfold gT
  simp[aT]
 rw[show [(false,Zm n),(false,Zm d)].length=2 from rfl,e,nT]at this
 exact this
theorem c90y (n:Int) (k g:Nat) (hg:0<g) (hd:g∣n.natAbs) (e:n.natAbs / g=k) (h:(Zm n).size≤268435456) (hgs:(nb g).size≤268435456):CallOK prog 90 [.agg [.lit (.bool false),.lit (.string (Zm n))],.agg [.lit (.bool false),.lit (.string (nb g))]] [] (.tup [.agg [.lit (.bool false),.lit (.string (nb k))],.agg (eZ 0),.lit (.bool true)]) []:=by
 have:=c90 false (Zm n) g hg (by rw[aT];exact hd) h hgs
 have e1:iv false (Zm n) / (g:Int)=((k:Nat):Int):=by
  show ((nv (Zm n):Nat):Int) / (g:Int)=_
  rw[aT,← e,Int.natCast_ediv]
 rw[e1,nT]at this
 exact this
theorem lK (n d:Int) (hn:(Zm n).size≤268435456) (hd:(Zm d).size≤268435456) (h0:d≠0):CallOK prog 134 [.agg (eZ n),.agg (eZ d)] [] (.tup [.agg (eQ (Rat.divInt n d)),.lit (.bool true)]) []:=by
 refine zs func134 57 [.cell 4 41,.tmp 5] results134 ?_
 simp only[aD,Nat.reduceAdd]
 have k0:(Zm d=⟨#[]⟩)=False:=eq_false fun h=>h0 (yC.1 h)
 have cg:=c88y n d hn hd
 have hG:0<Nat.gcd n.natAbs d.natAbs:=Nat.gcd_pos_of_pos_right _ (by omega)
 have hGs:(nb (Nat.gcd n.natAbs d.natAbs)).size≤268435456:=Nat.le_trans (pC (Nat.gcd_le_right _ (by omega))) hd
 have d1:=c90y n (Rat.divInt n d).num.natAbs _ hG (Nat.gcd_dvd_left _ _) (vS h0) hn hGs
 have d2:=c90y d (Rat.divInt n d).den _ hG (Nat.gcd_dvd_right _ _) (zH h0) hd hGs
 have e1:nb (Rat.divInt n d).num.natAbs=Zm (Rat.divInt n d).num:=rfl
 have k1:(Zm (Rat.divInt n d).num=⟨#[]⟩)=(n=0):=by rw[yC];exact propext (b0g h0)
 have k3:n≠0→(!(Zn n == Zn d))=Zn (Rat.divInt n d).num:=fun hn0=>by have:=a7d (n:=n) (d:=d) hn0 h0;rwa [← Bool.beq_eq_decide_eq]at this
 have hQ:eQ (Rat.divInt n d)=[.lit (.bool (Zn (Rat.divInt n d).num)),.lit (.string (Zm (Rat.divInt n d).num)),.lit (.string (Qd (Rat.divInt n d)))]:=rfl
 have k4:n=0→Zn (Rat.divInt n d).num=false:=fun hn0=>by rw[hn0,Rat.zero_divInt];rfl
 have k5:(Rat.divInt n d).den=1→Qd (Rat.divInt n d)=⟨#[]⟩:=fun h=>if_pos h
 have k6:(Rat.divInt n d).den≠1→Qd (Rat.divInt n d)=nb (Rat.divInt n d).den:=fun h=>if_neg h
 have zn1:Zn 1=false:=rfl
 have zm1:Zm 1=nb 1:=rfl
 rw[e1]at d1
 rw[hQ]
 clear hQ e1 hG h0
 generalize Nat.gcd n.natAbs d.natAbs=G at *
 generalize (Rat.divInt n d).num=qn at *
 generalize Qd (Rat.divInt n d)=qd at *
 generalize (Rat.divInt n d).den=qe at *
 by_cases hn0:n=0
 ·rw[eq_true hn0]at k1
  have k3:=(k4 hn0)
  rw[k3]
  by_cases h1:qe=1
  ·have k2:(nb qe=nb 1)=True:=eq_true (by rw[h1])
   rw[k5 h1]
   clear k4 k5 k6 hn0
   have k3:True:=trivial
   repeat'(first|refine zg ?_|(refine zc ?_ ?_<;>intro hc<;>try simp only[NM]at hc)|refine zr ?_|(first|refine zf (lH n (by omega)) ?_|refine zf (lH d (by omega)) ?_)|(refine gZ _ jS cg rfl rfl (by simp -dsimp (disch:=try exact zo)only[go_sem]) (.agg _ (by intro c hc;simp only[zM,or_false]at hc;rcases hc with rfl|rfl<;>exact .lit _)) ?_)|(first|refine zf d1 ?_|refine zf d2 ?_)|(refine zf tO ?_)|refine⟨by omega,?_⟩|(refine zb ?_ ?_<;>intro hg<;>(try rw[hg])<;>try simp only[NM]at hg)|omega|simp -dsimp (disch:=try exact zo)only[go_sem,k0,k1,k2,k3,zn1,zm1,and_self,true_and]|contradiction|rfl)
  ·have k2:(nb qe=nb 1)=False:=eq_false fun h=>h1 (pQ h)
   rw[k6 h1]
   clear k4 k5 k6 hn0
   have k3:True:=trivial
   repeat'(first|refine zg ?_|(refine zc ?_ ?_<;>intro hc<;>try simp only[NM]at hc)|refine zr ?_|(first|refine zf (lH n (by omega)) ?_|refine zf (lH d (by omega)) ?_)|(refine gZ _ jS cg rfl rfl (by simp -dsimp (disch:=try exact zo)only[go_sem]) (.agg _ (by intro c hc;simp only[zM,or_false]at hc;rcases hc with rfl|rfl<;>exact .lit _)) ?_)|(first|refine zf d1 ?_|refine zf d2 ?_)|(refine zf tO ?_)|refine⟨by omega,?_⟩|(refine zb ?_ ?_<;>intro hg<;>(try rw[hg])<;>try simp only[NM]at hg)|omega|simp -dsimp (disch:=try exact zo)only[go_sem,k0,k1,k2,k3,zn1,zm1,and_self,true_and]|contradiction|rfl)
 ·rw[eq_false hn0]at k1
  have k3:=k3 hn0
  by_cases h1:qe=1
  ·have k2:(nb qe=nb 1)=True:=eq_true (by rw[h1])
   rw[k5 h1]
   clear k4 k5 k6 hn0
   repeat'(first|refine zg ?_|(refine zc ?_ ?_<;>intro hc<;>try simp only[NM]at hc)|refine zr ?_|(first|refine zf (lH n (by omega)) ?_|refine zf (lH d (by omega)) ?_)|(refine gZ _ jS cg rfl rfl (by simp -dsimp (disch:=try exact zo)only[go_sem]) (.agg _ (by intro c hc;simp only[zM,or_false]at hc;rcases hc with rfl|rfl<;>exact .lit _)) ?_)|(first|refine zf d1 ?_|refine zf d2 ?_)|(refine zf tO ?_)|refine⟨by omega,?_⟩|(refine zb ?_ ?_<;>intro hg<;>(try rw[hg])<;>try simp only[NM]at hg)|omega|simp -dsimp (disch:=try exact zo)only[go_sem,k0,k1,k2,k3,zn1,zm1,and_self,true_and]|contradiction|rfl)
  ·have k2:(nb qe=nb 1)=False:=eq_false fun h=>h1 (pQ h)
   rw[k6 h1]
   clear k4 k5 k6 hn0
   repeat'(first|refine zg ?_|(refine zc ?_ ?_<;>intro hc<;>try simp only[NM]at hc)|refine zr ?_|(first|refine zf (lH n (by omega)) ?_|refine zf (lH d (by omega)) ?_)|(refine gZ _ jS cg rfl rfl (by simp -dsimp (disch:=try exact zo)only[go_sem]) (.agg _ (by intro c hc;simp only[zM,or_false]at hc;rcases hc with rfl|rfl<;>exact .lit _)) ?_)|(first|refine zf d1 ?_|refine zf d2 ?_)|(refine zf tO ?_)|refine⟨by omega,?_⟩|(refine zb ?_ ?_<;>intro hg<;>(try rw[hg])<;>try simp only[NM]at hg)|omega|simp -dsimp (disch:=try exact zo)only[go_sem,k0,k1,k2,k3,zn1,zm1,and_self,true_and]|contradiction|rfl)
theorem c64 (a:Rat) (hsa:Qs 67108864 a) (b:Rat) (hsb:Qs 67108864 b):CallOK prog 64 [.agg (eQ a),.agg (eQ b)] [] (.agg (eQ (a+b))) []:=by
 refine zs func64 28 [.cell 4 41] results64 ?_
 simp only[aD,Nat.reduceAdd]
 have s1:=hsa.num
 have s2:=hsa.den'
 have s3:=hsb.num
 have s4:=hsb.den'
 have s5:=aR a.num (b.den:Int) s1 s4
 have s6:=aR b.num (a.den:Int) s3 s2
 have s7:=aR (a.den:Int) (b.den:Int) s2 s4
 have s8:=gH _ _ s5 s6
 repeat'(first|refine zg ?_|(refine zc ?_ ?_<;>intro hc<;>try simp only[NM]at hc)|refine zr ?_|(first|refine zf (j6 a (Qs.mono hsa (by omega))) ?_|refine zf (j6 b (Qs.mono hsb (by omega))) ?_)|(first|refine zf (lJ a (Qs.mono hsa (by omega))) ?_|refine zf (lJ b (Qs.mono hsb (by omega))) ?_)|(first|refine zf (cH (a.num) ((b.den:Int)) (by omega) (by omega)) ?_|refine zf (cH (b.num) ((a.den:Int)) (by omega) (by omega)) ?_|refine zf (cH ((a.den:Int)) ((b.den:Int)) (by omega) (by omega)) ?_)|(refine zf (tP (a.num*(b.den:Int)) (b.num*(a.den:Int)) (by omega) (by omega)) ?_)|(refine callV.flat (.tup [.agg (eQ (a+b)),.lit (.bool true)]) o9 (by have:=lK (a.num*(b.den:Int)+b.num*(a.den:Int)) ((a.den:Int)*(b.den:Int)) (by omega) (by omega) (a5u a b);rw[a8d a b]at this;exact this) rfl rfl ?_)|refine⟨by omega,?_⟩|(refine zb ?_ ?_<;>intro hg<;>(try rw[hg])<;>try simp only[NM]at hg)|omega|simp -dsimp (disch:=try exact zo)only[go_sem]|contradiction|rfl)
theorem c231 (a:Rat) (hsa:Qs 67108864 a):CallOK prog 231 [.agg (eQ a)] [] (.agg (eQ (-a))) []:=by
 refine zs func231 15 [.cell 2 41] results231 ?_
 simp only[aD,Nat.reduceAdd]
 have s1:=hsa.num
 have s2:=hsa.den'
 have s3:(Zm (-a.num)).size≤67108864:=by rw[iN];exact s1
 repeat'(first|refine zg ?_|(refine zc ?_ ?_<;>intro hc<;>try simp only[NM]at hc)|refine zr ?_|(refine zf (j6 a (Qs.mono hsa (by omega))) ?_)|(refine zf (lJ a (Qs.mono hsa (by omega))) ?_)|(refine zf (oD a.num (by omega)) ?_)|(refine callV.flat (.tup [.agg (eQ (-a)),.lit (.bool true)]) o9 (by have:=lK (-a.num) ((a.den:Int)) (by omega) (by omega) (fW a);rw[q_neg a]at this;exact this) rfl rfl ?_)|refine⟨by omega,?_⟩|(refine zb ?_ ?_<;>intro hg<;>(try rw[hg])<;>try simp only[NM]at hg)|omega|simp -dsimp (disch:=try exact zo)only[go_sem]|contradiction|rfl)
theorem qY (a:Rat) (hsa:Qs 67108864 a) (b:Rat) (hsb:Qs 67108864 b):CallOK prog 183 [.agg (eQ a),.agg (eQ b)] [] (.agg (eQ (a - b))) []:=by
 refine zs func183 9 [.cell 4 41] results183 ?_
 simp only[aD,Nat.reduceAdd]
 repeat'(first|refine zg ?_|(refine zc ?_ ?_<;>intro hc<;>try simp only[NM]at hc)|refine zr ?_|(refine zf (c231 b hsb) ?_)|(refine callV.flat (.agg (eQ (a - b))) c3l (by have:=c64 a hsa (-b) hsb.neg;rw[← Rat.sub_eq_add_neg]at this;exact this) rfl rfl ?_)|refine⟨by omega,?_⟩|(refine zb ?_ ?_<;>intro hg<;>(try rw[hg])<;>try simp only[NM]at hg)|omega|simp -dsimp (disch:=try exact zo)only[go_sem]|contradiction|rfl)
theorem qZ (a:Rat) (hsa:Qs 67108864 a) (b:Rat) (hsb:Qs 67108864 b):CallOK prog 182 [.agg (eQ a),.agg (eQ b)] [] (.agg (eQ (a*b))) []:=by
 refine zs func182 22 [.cell 4 41] results182 ?_
 simp only[aD,Nat.reduceAdd]
 have s1:=hsa.num
 have s2:=hsa.den'
 have s3:=hsb.num
 have s4:=hsb.den'
 have s5:=aR a.num b.num s1 s3
 have s7:=aR (a.den:Int) (b.den:Int) s2 s4
 repeat'(first|refine zg ?_|(refine zc ?_ ?_<;>intro hc<;>try simp only[NM]at hc)|refine zr ?_|(first|refine zf (j6 a (Qs.mono hsa (by omega))) ?_|refine zf (j6 b (Qs.mono hsb (by omega))) ?_)|(first|refine zf (lJ a (Qs.mono hsa (by omega))) ?_|refine zf (lJ b (Qs.mono hsb (by omega))) ?_)|(first|refine zf (cH (a.num) (b.num) (by omega) (by omega)) ?_|refine zf (cH ((a.den:Int)) ((b.den:Int)) (by omega) (by omega)) ?_)|(refine callV.flat (.tup [.agg (eQ (a*b)),.lit (.bool true)]) o9 (by have:=lK (a.num*b.num) ((a.den:Int)*(b.den:Int)) (by omega) (by omega) (a5u a b);rw[a8a a b]at this;exact this) rfl rfl ?_)|refine⟨by omega,?_⟩|(refine zb ?_ ?_<;>intro hg<;>(try rw[hg])<;>try simp only[NM]at hg)|omega|simp -dsimp (disch:=try exact zo)only[go_sem]|contradiction|rfl)
theorem c129 (a:Rat) (hsa:Qs 67108864 a) (b:Rat) (hsb:Qs 67108864 b) (h0:b≠0):CallOK prog 129 [.agg (eQ a),.agg (eQ b)] [] (.tup [.agg (eQ (a / b)),.lit (.bool true)]) []:=by
 refine zs func129 19 [.cell 4 41,.tmp 5] results129 ?_
 simp only[aD,Nat.reduceAdd]
 have s1:=hsa.num
 have s2:=hsa.den'
 have s3:=hsb.num
 have s4:=hsb.den'
 have s5:=aR a.num (b.den:Int) s1 s4
 have s7:=aR (a.den:Int) b.num s2 s3
 have hne:(a.den:Int)*b.num≠0:=Int.mul_ne_zero (fW a) (fun h=>h0 (Rat.num_eq_zero.1 h))
 repeat'(first|refine zg ?_|(refine zc ?_ ?_<;>intro hc<;>try simp only[NM]at hc)|refine zr ?_|(first|refine zf (j6 a (Qs.mono hsa (by omega))) ?_|refine zf (j6 b (Qs.mono hsb (by omega))) ?_)|(first|refine zf (lJ a (Qs.mono hsa (by omega))) ?_|refine zf (lJ b (Qs.mono hsb (by omega))) ?_)|(first|refine zf (cH (a.num) ((b.den:Int)) (by omega) (by omega)) ?_|refine zf (cH ((a.den:Int)) (b.num) (by omega) (by omega)) ?_)|(refine callV.flat (.tup [.agg (eQ (a / b)),.lit (.bool true)]) o9 (by have:=lK (a.num*(b.den:Int)) ((a.den:Int)*b.num) (by omega) (by omega) hne;rw[a8c a b]at this;exact this) rfl rfl ?_)|refine⟨by omega,?_⟩|(refine zb ?_ ?_<;>intro hg<;>(try rw[hg])<;>try simp only[NM]at hg)|omega|simp -dsimp (disch:=try exact zo)only[go_sem]|contradiction|rfl)
theorem c63 (a:Rat) (hsa:Qs 67108864 a):CallOK prog 63 [.agg (eQ a)] [] (.lit (.int .i64 (sg a.num))) []:=by
 refine zs func63 6 [.tmp 2] results63 ?_
 simp only[aD,Nat.reduceAdd]
 have s1:=hsa.num
 have s2:=hsa.den'
 repeat'(first|refine zg ?_|(refine zc ?_ ?_<;>intro hc<;>try simp only[NM]at hc)|refine zr ?_|(refine zf (j6 a (Qs.mono hsa (by omega))) ?_)|(refine zf (c86w a.num (by omega)) ?_)|refine⟨by omega,?_⟩|(refine zb ?_ ?_<;>intro hg<;>(try rw[hg])<;>try simp only[NM]at hg)|omega|simp -dsimp (disch:=try exact zo)only[go_sem]|contradiction|rfl)
theorem c230 (a:Rat) (hsa:Qs 67108864 a):CallOK prog 230 [.agg (eQ a)] [] (.agg (eQ a)) []:=by
 refine zs func230 14 [.cell 2 41] results230 ?_
 simp only[aD,Nat.reduceAdd]
 have s1:=hsa.num
 have s2:=hsa.den'
 repeat'(first|refine zg ?_|(refine zc ?_ ?_<;>intro hc<;>try simp only[NM]at hc)|refine zr ?_|(refine zf (j6 a (Qs.mono hsa (by omega))) ?_)|(refine zf (lJ a (Qs.mono hsa (by omega))) ?_)|(refine callV.flat (.tup [.agg (eQ (a)),.lit (.bool true)]) o9 (by have:=lK (a.num) ((a.den:Int)) (by omega) (by omega) (fW a);rw[a6z a]at this;exact this) rfl rfl ?_)|refine⟨by omega,?_⟩|(refine zb ?_ ?_<;>intro hg<;>(try rw[hg])<;>try simp only[NM]at hg)|omega|simp -dsimp (disch:=try exact zo)only[go_sem]|contradiction|rfl)
theorem oF (a:Rat) (hsa:Qs 67108864 a):CallOK prog 181 [.agg (eQ a)] [] (.tup [.agg (eZ a.num),.agg (eZ (a.den:Int))]) []:=by
 refine zs func181 11 [.cell 2 24,.cell 3 24] results181 ?_
 simp only[aD,Nat.reduceAdd]
 repeat'(first|refine zg ?_|(refine zc ?_ ?_<;>intro hc<;>try simp only[NM]at hc)|refine zr ?_|(refine zf (c230 a hsa) ?_)|(refine zf (j6 a (Qs.mono hsa (by omega))) ?_)|(refine zf (lJ a (Qs.mono hsa (by omega))) ?_)|refine⟨by omega,?_⟩|(refine zb ?_ ?_<;>intro hg<;>(try rw[hg])<;>try simp only[NM]at hg)|omega|simp -dsimp (disch:=try exact zo)only[go_sem]|contradiction|rfl)
end Go.Proofs.Vx
