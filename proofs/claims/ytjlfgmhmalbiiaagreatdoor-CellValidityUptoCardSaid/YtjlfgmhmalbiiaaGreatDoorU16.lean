import Derived.Test.YtjlfgmhmalbiiaaGreatDoorProg
import Derived.Test.YtjlfgmhmalbiiaaGreatDoorU10
import Derived.Test.YtjlfgmhmalbiiaaGreatDoorU11
import Derived.Test.YtjlfgmhmalbiiaaGreatDoorU15
set_option linter.all false
namespace Go.Proofs.Vx
open Go Go.Sx Go.Proofs
attribute [local irreducible] fnT CallOK CallFr AW effV callV runP runO oneP oneO gcaseP hid
theorem yqq_Nx16:agT Tryz.prog 51=some true∧agT Tryz.prog 95=some true∧arT Tryz.prog 95=some (4,2,true)∧fdT Tryz.prog 51 0=some (0,2,true)∧fdT Tryz.prog 51 1=some (2,2,true)∧fdT Tryz.prog 51 2=some (4,2,true)∧fdT Tryz.prog 51 3=some (6,2,true)∧plT Tryz.prog 51=some [(0,2),(2,2),(4,2),(6,2)]∧plT Tryz.prog 95=some [(0,2),(2,2),(4,2),(6,2)]∧slT Tryz.prog 95=none∧strT Tryz.prog 95=false∧szT Tryz.prog 51=some 8∧szT Tryz.prog 95=some 8∧zeT Tryz.prog 51=some [.lit (.bool false),.lit (.string ⟨#[]⟩),.lit (.bool false),.lit (.string ⟨#[]⟩),.lit (.bool false),.lit (.string ⟨#[]⟩),.lit (.bool false),.lit (.string ⟨#[]⟩)]∧zeT Tryz.prog 95=some [.lit (.bool false),.lit (.string ⟨#[]⟩),.lit (.bool false),.lit (.string ⟨#[]⟩),.lit (.bool false),.lit (.string ⟨#[]⟩),.lit (.bool false),.lit (.string ⟨#[]⟩)]:=by and_intros<;>kernel_rfl
attribute [go_sem] yqq_Nx16
theorem yfn_35:fnT Tryz.prog 35=true:=by kernel_rfl
theorem yfn_77:fnT Tryz.prog 77=true:=by kernel_rfl
theorem yfn_96:fnT Tryz.prog 96=true:=by kernel_rfl
theorem yfn_98:fnT Tryz.prog 98=true:=by kernel_rfl
theorem g4_gcdN (x y z w:Int):gcdN [(Zn x,Zm x),(Zn y,Zm y),(Zn z,Zm z),(Zn w,Zm w)]=g4 x y z w:=by
 simp only[gcdN,List.foldl_cons,List.foldl_nil,nv_Zm,Nat.gcd_zero_left,g4]
theorem c167z (x y z w : Int) (hx : (Zm x).size < 68719476736) (hy : (Zm y).size < 68719476736) (hz : (Zm z).size < 68719476736) (hw : (Zm w).size < 68719476736) :
  CallOK Tryz.prog 167 [.sl [[.lit (.bool (Zn x)),.lit (.string (Zm x))],[.lit (.bool (Zn y)),.lit (.string (Zm y))],[.lit (.bool (Zn z)),.lit (.string (Zm z))],[.lit (.bool (Zn w)),.lit (.string (Zm w))]]] [] (.agg (eZ (g4 x y z w:Int))) []:=by
 have:=c167 [(Zn x,Zm x),(Zn y,Zm y),(Zn z,Zm z),(Zn w,Zm w)] (by simp only[List.forall_mem_cons];exact ⟨hx,hy,hz,hw,by simp⟩) (by simp)
 rw[g4_gcdN]at this
 exact this
set_option maxHeartbeats 8000000 in
theorem c98 (n1:Bool) (m1:ByteArray) (n2:Bool) (m2:ByteArray) (n3:Bool) (m3:ByteArray) (n4:Bool) (m4:ByteArray) (h1:m1.size<17179869184) (h2:m2.size<17179869184) (h3:m3.size<17179869184) (h4:m4.size<17179869184):CallOK Tryz.prog 98 [.agg [.lit (.bool n1),.lit (.string m1),.lit (.bool n2),.lit (.string m2),.lit (.bool n3),.lit (.string m3),.lit (.bool n4),.lit (.string m4)]] [] (.agg (eP (nrm (iv n1 m1) (iv n2 m2) (iv n3 m3) (iv n4 m4)))) []:=by
 refine CallOK.flat Tryz.func98 rfl 61 rfl rfl rfl [.cell 2 51] (congrArg Array.toList Tryz.results98) ?_
 simp only[startT,Nat.reduceAdd]
 have s1:=zs_iv n1 m1
 have s2:=zs_iv n2 m2
 have s3:=zs_iv n3 m3
 have s4:=zs_iv n4 m4
 generalize hx:iv n1 m1=x at *
 generalize hy:iv n2 m2=y at *
 generalize hz:iv n3 m3=z at *
 generalize hw:iv n4 m4=w at *
 have s5:(Zm (nz w)).size≤17179869184:=zs_nz (by omega) (by omega)
 have cg:=c167z x y z (nz w) (by omega) (by omega) (by omega) (by omega)
 have hgp:=g4_pos (x:=x) (y:=y) (z:=z) (nz_ne w)
 have hg0:(g4 x y z (nz w):Int)≠0:=by omega
 have s6:(Zm (g4 x y z (nz w):Int)).size≤17179869184:=by
  obtain ⟨_,_,_,d4⟩:=g4_dvd x y z (nz w)
  refine Nat.le_trans (zs_le ?_) s5
  exact Nat.le_of_dvd (by have:=nz_ne w;omega) (Int.natAbs_dvd_natAbs.2 d4)
 have s7:=zs_ediv x (g4 x y z (nz w):Int)
 have s8:=zs_ediv y (g4 x y z (nz w):Int)
 have s9:=zs_ediv z (g4 x y z (nz w):Int)
 have s10:=zs_ediv (nz w) (g4 x y z (nz w):Int)
 unfold nrm turn
 by_cases hw0:w=0
 ·have e67:eZ 1=eZ (nz w):=by unfold nz;rw[if_pos hw0]
  have hs4:(sg w=0)=True:=eq_true (sg_zero.2 hw0)
  have hn1:¬ nz w<0:=by unfold nz;rw[if_pos hw0];omega
  have hsw:(sg (nz w)<0)=False:=eq_false fun h=>hn1 (sg_neg.1 h)
  simp only[if_neg hn1]
  clear hw0
  have hw0:True:=trivial
  repeat' (first|refine zg ?_|refine AW.unroll 6 ?_|(refine AW.cond rfl ?_ ?_<;>intro hc<;>try simp only[NM]at hc)|refine zr ?_|(first|refine callV.flat (.agg (eZ x)) yfn_142 (hx▸c142 n1 m1 (by omega)) rfl rfl ?_|refine callV.flat (.agg (eZ y)) yfn_142 (hy▸c142 n2 m2 (by omega)) rfl rfl ?_|refine callV.flat (.agg (eZ z)) yfn_142 (hz▸c142 n3 m3 (by omega)) rfl rfl ?_|refine callV.flat (.agg (eZ w)) yfn_142 (hw▸c142 n4 m4 (by omega)) rfl rfl ?_)|(first|refine callV.flat _ yfn_76 (c76z w (by omega)) rfl rfl ?_|refine callV.flat _ yfn_76 (c76z (nz w) (by omega)) rfl rfl ?_)|(refine callV.flat (.agg (eZ (nz w))) yfn_67 (e67▸c67 1 (by omega)) rfl rfl ?_)|(refine callV.lend (.agg (eZ (g4 x y z (nz w):Int))) yfn_167 (by simp -dsimp (disch:=try exact zo) only[go_sem];exact cg) (by simp -dsimp (disch:=try exact zo) only[go_sem]) (.agg _ (by simp;exact ⟨.lit _,.lit _⟩)) ?_)|(first|refine callV.flat _ yfn_165 (c165z x (g4 x y z (nz w):Int) (by omega) (by omega) hg0) rfl rfl ?_|refine callV.flat _ yfn_165 (c165z y (g4 x y z (nz w):Int) (by omega) (by omega) hg0) rfl rfl ?_|refine callV.flat _ yfn_165 (c165z z (g4 x y z (nz w):Int) (by omega) (by omega) hg0) rfl rfl ?_|refine callV.flat _ yfn_165 (c165z (nz w) (g4 x y z (nz w):Int) (by omega) (by omega) hg0) rfl rfl ?_)|(first|refine callV.flat _ yfn_73 (c73z (x / (g4 x y z (nz w):Int)) (by omega)) rfl rfl ?_|refine callV.flat _ yfn_73 (c73z (y / (g4 x y z (nz w):Int)) (by omega)) rfl rfl ?_|refine callV.flat _ yfn_73 (c73z (z / (g4 x y z (nz w):Int)) (by omega)) rfl rfl ?_|refine callV.flat _ yfn_73 (c73z (nz w / (g4 x y z (nz w):Int)) (by omega)) rfl rfl ?_)|refine ⟨by omega,?_⟩|(refine zb ?_ ?_<;>intro hg<;>(try rw[hg])<;>try simp only[NM]at hg)|omega|simp -dsimp (disch:=try exact zo) only[go_sem,hsw,hs4,hw0]|contradiction|rfl)
 ·have e67:True:=trivial
  have hs4:(sg w=0)=False:=eq_false fun h=>hw0 (sg_zero.1 h)
  have hwn:nz w=w:=if_neg hw0
  simp only[hwn]at cg hgp hg0 s5 s6 s7 s8 s9 s10 ⊢
  by_cases hn1:w<0
  ·have hsw:(sg w<0)=True:=eq_true (sg_neg.2 hn1)
   simp only[if_pos hn1]
   clear hw0
   have hw0:True:=trivial
   repeat' (first|refine zg ?_|refine AW.unroll 6 ?_|(refine AW.cond rfl ?_ ?_<;>intro hc<;>try simp only[NM]at hc)|refine zr ?_|(first|refine callV.flat (.agg (eZ x)) yfn_142 (hx▸c142 n1 m1 (by omega)) rfl rfl ?_|refine callV.flat (.agg (eZ y)) yfn_142 (hy▸c142 n2 m2 (by omega)) rfl rfl ?_|refine callV.flat (.agg (eZ z)) yfn_142 (hz▸c142 n3 m3 (by omega)) rfl rfl ?_|refine callV.flat (.agg (eZ w)) yfn_142 (hw▸c142 n4 m4 (by omega)) rfl rfl ?_)|(first|refine callV.flat _ yfn_76 (c76z w (by omega)) rfl rfl ?_|refine callV.flat _ yfn_76 (c76z w (by omega)) rfl rfl ?_)|(refine callV.flat (.agg (eZ w)) yfn_67 (e67▸c67 1 (by omega)) rfl rfl ?_)|(refine callV.lend (.agg (eZ (g4 x y z w:Int))) yfn_167 (by simp -dsimp (disch:=try exact zo) only[go_sem];exact cg) (by simp -dsimp (disch:=try exact zo) only[go_sem]) (.agg _ (by simp;exact ⟨.lit _,.lit _⟩)) ?_)|(first|refine callV.flat _ yfn_165 (c165z x (g4 x y z w:Int) (by omega) (by omega) hg0) rfl rfl ?_|refine callV.flat _ yfn_165 (c165z y (g4 x y z w:Int) (by omega) (by omega) hg0) rfl rfl ?_|refine callV.flat _ yfn_165 (c165z z (g4 x y z w:Int) (by omega) (by omega) hg0) rfl rfl ?_|refine callV.flat _ yfn_165 (c165z w (g4 x y z w:Int) (by omega) (by omega) hg0) rfl rfl ?_)|(first|refine callV.flat _ yfn_73 (c73z (x / (g4 x y z w:Int)) (by omega)) rfl rfl ?_|refine callV.flat _ yfn_73 (c73z (y / (g4 x y z w:Int)) (by omega)) rfl rfl ?_|refine callV.flat _ yfn_73 (c73z (z / (g4 x y z w:Int)) (by omega)) rfl rfl ?_|refine callV.flat _ yfn_73 (c73z (w / (g4 x y z w:Int)) (by omega)) rfl rfl ?_)|refine ⟨by omega,?_⟩|(refine zb ?_ ?_<;>intro hg<;>(try rw[hg])<;>try simp only[NM]at hg)|omega|simp -dsimp (disch:=try exact zo) only[go_sem,hsw,hs4,hw0]|contradiction|rfl)
  ·have hsw:(sg w<0)=False:=eq_false fun h=>hn1 (sg_neg.1 h)
   simp only[if_neg hn1]
   clear hw0
   have hw0:True:=trivial
   repeat' (first|refine zg ?_|refine AW.unroll 6 ?_|(refine AW.cond rfl ?_ ?_<;>intro hc<;>try simp only[NM]at hc)|refine zr ?_|(first|refine callV.flat (.agg (eZ x)) yfn_142 (hx▸c142 n1 m1 (by omega)) rfl rfl ?_|refine callV.flat (.agg (eZ y)) yfn_142 (hy▸c142 n2 m2 (by omega)) rfl rfl ?_|refine callV.flat (.agg (eZ z)) yfn_142 (hz▸c142 n3 m3 (by omega)) rfl rfl ?_|refine callV.flat (.agg (eZ w)) yfn_142 (hw▸c142 n4 m4 (by omega)) rfl rfl ?_)|(first|refine callV.flat _ yfn_76 (c76z w (by omega)) rfl rfl ?_|refine callV.flat _ yfn_76 (c76z w (by omega)) rfl rfl ?_)|(refine callV.flat (.agg (eZ w)) yfn_67 (e67▸c67 1 (by omega)) rfl rfl ?_)|(refine callV.lend (.agg (eZ (g4 x y z w:Int))) yfn_167 (by simp -dsimp (disch:=try exact zo) only[go_sem];exact cg) (by simp -dsimp (disch:=try exact zo) only[go_sem]) (.agg _ (by simp;exact ⟨.lit _,.lit _⟩)) ?_)|(first|refine callV.flat _ yfn_165 (c165z x (g4 x y z w:Int) (by omega) (by omega) hg0) rfl rfl ?_|refine callV.flat _ yfn_165 (c165z y (g4 x y z w:Int) (by omega) (by omega) hg0) rfl rfl ?_|refine callV.flat _ yfn_165 (c165z z (g4 x y z w:Int) (by omega) (by omega) hg0) rfl rfl ?_|refine callV.flat _ yfn_165 (c165z w (g4 x y z w:Int) (by omega) (by omega) hg0) rfl rfl ?_)|(first|refine callV.flat _ yfn_73 (c73z (x / (g4 x y z w:Int)) (by omega)) rfl rfl ?_|refine callV.flat _ yfn_73 (c73z (y / (g4 x y z w:Int)) (by omega)) rfl rfl ?_|refine callV.flat _ yfn_73 (c73z (z / (g4 x y z w:Int)) (by omega)) rfl rfl ?_|refine callV.flat _ yfn_73 (c73z (w / (g4 x y z w:Int)) (by omega)) rfl rfl ?_)|refine ⟨by omega,?_⟩|(refine zb ?_ ?_<;>intro hg<;>(try rw[hg])<;>try simp only[NM]at hg)|omega|simp -dsimp (disch:=try exact zo) only[go_sem,hsw,hs4,hw0]|contradiction|rfl)
end Go.Proofs.Vx
namespace Go.Proofs.Vx
open Go Go.Sx Go.Proofs
attribute [local irreducible] fnT CallOK CallFr AW effV callV runP runO oneP oneO gcaseP hid
theorem yqq_Nx17:agT Tryz.prog 103=some true∧agT Tryz.prog 121=some true∧arT Tryz.prog 103=some (3,3,true)∧arT Tryz.prog 121=some (3,2,true)∧plT Tryz.prog 121=some [(0,2),(2,2),(4,2)]∧slT Tryz.prog 103=none∧slT Tryz.prog 121=none∧strT Tryz.prog 121=false∧szT Tryz.prog 103=some 9∧szT Tryz.prog 121=some 6∧zeT Tryz.prog 103=some [.lit (.bool false),.lit (.string ⟨#[]⟩),.lit (.string ⟨#[]⟩),.lit (.bool false),.lit (.string ⟨#[]⟩),.lit (.string ⟨#[]⟩),.lit (.bool false),.lit (.string ⟨#[]⟩),.lit (.string ⟨#[]⟩)]∧zeT Tryz.prog 121=some [.lit (.bool false),.lit (.string ⟨#[]⟩),.lit (.bool false),.lit (.string ⟨#[]⟩),.lit (.bool false),.lit (.string ⟨#[]⟩)]:=by and_intros<;>kernel_rfl
attribute [go_sem] yqq_Nx17
theorem c98z (x y z w:Int) (h:Bs 17179869183 x y z w):CallOK Tryz.prog 98 [.agg (e4 x y z w)] [] (.agg (eP (nrm x y z w))) []:=by
 have:=c98 (Zn x) (Zm x) (Zn y) (Zm y) (Zn z) (Zm z) (Zn w) (Zm w) (by have:=h.a;omega) (by have:=h.b;omega) (by have:=h.c;omega) (by have:=h.d;omega)
 rwa [iv_Z,iv_Z,iv_Z,iv_Z]at this
theorem c98c (p:Pt) (hc:CanP p) (h:Bs 17179869183 p.x p.y p.z p.w):CallOK Tryz.prog 98 [.agg (eP p)] [] (.agg (eP p)) []:=by
 have:=c98z p.x p.y p.z p.w h
 rwa [nrm_can hc]at this
set_option maxHeartbeats 3200000 in
theorem c77 (p:Pt) (hcp:CanP p) (hp:Bs 17179869183 p.x p.y p.z p.w):CallOK Tryz.prog 77 [.agg (eP p)] [] (.agg (eV (Rat.divInt p.x p.w) (Rat.divInt p.y p.w) (Rat.divInt p.z p.w))) []:=by
 refine CallOK.flat Tryz.func77 rfl 30 rfl rfl rfl [.cell 2 103] (congrArg Array.toList Tryz.results77) ?_
 simp only[startT,Nat.reduceAdd]
 have sp1:=hp.a
 have sp2:=hp.b
 have sp3:=hp.c
 have sp4:=hp.d
 have hw:=hcp.w
 repeat' (first|refine zg ?_|refine AW.unroll 6 ?_|(refine AW.cond rfl ?_ ?_<;>intro hc<;>try simp only[NM]at hc)|refine zr ?_|(first|refine callV.flat _ yfn_98 (c98c p hcp hp) rfl rfl ?_)|(first|refine callV.flat _ yfn_144 (c144z p.x p.w (by omega) (by omega) (by omega)) rfl rfl ?_|refine callV.flat _ yfn_144 (c144z p.y p.w (by omega) (by omega) (by omega)) rfl rfl ?_|refine callV.flat _ yfn_144 (c144z p.z p.w (by omega) (by omega) (by omega)) rfl rfl ?_)|refine ⟨by omega,?_⟩|(refine zb ?_ ?_<;>intro hg<;>(try rw[hg])<;>try simp only[NM]at hg)|omega|simp -dsimp (disch:=try exact zo) only[go_sem]|contradiction|rfl)
set_option maxHeartbeats 6400000 in
theorem c35 (a b:Pt) (hca:CanP a) (hcb:CanP b) (ha:Bs 8589934591 a.x a.y a.z a.w) (hb:Bs 8589934591 b.x b.y b.z b.w):CallOK Tryz.prog 35 [.agg (eP a),.agg (eP b)] [] (.lit (.int .i64 (cmpP a b))) []:=by
 refine CallOK.flat Tryz.func35 rfl 48 rfl rfl rfl [.tmp 4] (congrArg Array.toList Tryz.results35) ?_
 simp only[startT,Nat.reduceAdd]
 have sa1:=ha.a
 have sa2:=ha.b
 have sa3:=ha.c
 have sa4:=ha.d
 have sb1:=hb.a
 have sb2:=hb.b
 have sb3:=hb.c
 have sb4:=hb.d
 have tx1:=zs_mul a.x b.w sa1 sb4
 have tx2:=zs_mul b.x a.w sb1 sa4
 have ty1:=zs_mul a.y b.w sa2 sb4
 have ty2:=zs_mul b.y a.w sb2 sa4
 have tz1:=zs_mul a.z b.w sa3 sb4
 have tz2:=zs_mul b.z a.w sb3 sa4
 have ha:Bs 17179869183 a.x a.y a.z a.w:=⟨by omega,by omega,by omega,by omega⟩
 have hb:Bs 17179869183 b.x b.y b.z b.w:=⟨by omega,by omega,by omega,by omega⟩
 unfold cmpP
 by_cases q1:sg (a.x*b.w - b.x*a.w)=0
 ·have k1:=eq_true q1
  rw[if_neg (by simp[q1])]
  by_cases q2:sg (a.y*b.w - b.y*a.w)=0
  ·have k2:=eq_true q2
   rw[if_neg (by simp[q2])]
   by_cases q3:sg (a.z*b.w - b.z*a.w)=0
   ·have k3:=eq_true q3
    rw[q3]
    repeat' (first|refine zg ?_|refine AW.unroll 6 ?_|(refine AW.cond rfl ?_ ?_<;>intro hc<;>try simp only[NM]at hc)|refine zr ?_|(first|refine callV.flat _ yfn_98 (c98c a hca ha) rfl rfl ?_|refine callV.flat _ yfn_98 (c98c b hcb hb) rfl rfl ?_)|(first|refine callV.flat _ yfn_83 (c83z a.x b.w (by omega) (by omega)) rfl rfl ?_|refine callV.flat _ yfn_83 (c83z b.x a.w (by omega) (by omega)) rfl rfl ?_|refine callV.flat _ yfn_83 (c83z a.y b.w (by omega) (by omega)) rfl rfl ?_|refine callV.flat _ yfn_83 (c83z b.y a.w (by omega) (by omega)) rfl rfl ?_|refine callV.flat _ yfn_83 (c83z a.z b.w (by omega) (by omega)) rfl rfl ?_|refine callV.flat _ yfn_83 (c83z b.z a.w (by omega) (by omega)) rfl rfl ?_)|(first|refine callV.flat _ yfn_97 (c97z (a.x*b.w) (b.x*a.w) (by omega) (by omega)) rfl rfl ?_|refine callV.flat _ yfn_97 (c97z (a.y*b.w) (b.y*a.w) (by omega) (by omega)) rfl rfl ?_|refine callV.flat _ yfn_97 (c97z (a.z*b.w) (b.z*a.w) (by omega) (by omega)) rfl rfl ?_)|refine ⟨by omega,?_⟩|(refine zb ?_ ?_<;>intro hg<;>(try rw[hg])<;>try simp only[NM]at hg)|omega|simp -dsimp (disch:=try exact zo) only[go_sem,k1,k2,k3]|contradiction|rfl)
   ·have k3:=eq_false q3
    repeat' (first|refine zg ?_|refine AW.unroll 6 ?_|(refine AW.cond rfl ?_ ?_<;>intro hc<;>try simp only[NM]at hc)|refine zr ?_|(first|refine callV.flat _ yfn_98 (c98c a hca ha) rfl rfl ?_|refine callV.flat _ yfn_98 (c98c b hcb hb) rfl rfl ?_)|(first|refine callV.flat _ yfn_83 (c83z a.x b.w (by omega) (by omega)) rfl rfl ?_|refine callV.flat _ yfn_83 (c83z b.x a.w (by omega) (by omega)) rfl rfl ?_|refine callV.flat _ yfn_83 (c83z a.y b.w (by omega) (by omega)) rfl rfl ?_|refine callV.flat _ yfn_83 (c83z b.y a.w (by omega) (by omega)) rfl rfl ?_|refine callV.flat _ yfn_83 (c83z a.z b.w (by omega) (by omega)) rfl rfl ?_|refine callV.flat _ yfn_83 (c83z b.z a.w (by omega) (by omega)) rfl rfl ?_)|(first|refine callV.flat _ yfn_97 (c97z (a.x*b.w) (b.x*a.w) (by omega) (by omega)) rfl rfl ?_|refine callV.flat _ yfn_97 (c97z (a.y*b.w) (b.y*a.w) (by omega) (by omega)) rfl rfl ?_|refine callV.flat _ yfn_97 (c97z (a.z*b.w) (b.z*a.w) (by omega) (by omega)) rfl rfl ?_)|refine ⟨by omega,?_⟩|(refine zb ?_ ?_<;>intro hg<;>(try rw[hg])<;>try simp only[NM]at hg)|omega|simp -dsimp (disch:=try exact zo) only[go_sem,k1,k2,k3]|contradiction|rfl)
  ·have k2:=eq_false q2
   rw[if_pos q2]
   have k3:True:=trivial
   repeat' (first|refine zg ?_|refine AW.unroll 6 ?_|(refine AW.cond rfl ?_ ?_<;>intro hc<;>try simp only[NM]at hc)|refine zr ?_|(first|refine callV.flat _ yfn_98 (c98c a hca ha) rfl rfl ?_|refine callV.flat _ yfn_98 (c98c b hcb hb) rfl rfl ?_)|(first|refine callV.flat _ yfn_83 (c83z a.x b.w (by omega) (by omega)) rfl rfl ?_|refine callV.flat _ yfn_83 (c83z b.x a.w (by omega) (by omega)) rfl rfl ?_|refine callV.flat _ yfn_83 (c83z a.y b.w (by omega) (by omega)) rfl rfl ?_|refine callV.flat _ yfn_83 (c83z b.y a.w (by omega) (by omega)) rfl rfl ?_|refine callV.flat _ yfn_83 (c83z a.z b.w (by omega) (by omega)) rfl rfl ?_|refine callV.flat _ yfn_83 (c83z b.z a.w (by omega) (by omega)) rfl rfl ?_)|(first|refine callV.flat _ yfn_97 (c97z (a.x*b.w) (b.x*a.w) (by omega) (by omega)) rfl rfl ?_|refine callV.flat _ yfn_97 (c97z (a.y*b.w) (b.y*a.w) (by omega) (by omega)) rfl rfl ?_|refine callV.flat _ yfn_97 (c97z (a.z*b.w) (b.z*a.w) (by omega) (by omega)) rfl rfl ?_)|refine ⟨by omega,?_⟩|(refine zb ?_ ?_<;>intro hg<;>(try rw[hg])<;>try simp only[NM]at hg)|omega|simp -dsimp (disch:=try exact zo) only[go_sem,k1,k2,k3]|contradiction|rfl)
 ·have k1:=eq_false q1
  rw[if_pos q1]
  have k2:True:=trivial
  have k3:True:=trivial
  repeat' (first|refine zg ?_|refine AW.unroll 6 ?_|(refine AW.cond rfl ?_ ?_<;>intro hc<;>try simp only[NM]at hc)|refine zr ?_|(first|refine callV.flat _ yfn_98 (c98c a hca ha) rfl rfl ?_|refine callV.flat _ yfn_98 (c98c b hcb hb) rfl rfl ?_)|(first|refine callV.flat _ yfn_83 (c83z a.x b.w (by omega) (by omega)) rfl rfl ?_|refine callV.flat _ yfn_83 (c83z b.x a.w (by omega) (by omega)) rfl rfl ?_|refine callV.flat _ yfn_83 (c83z a.y b.w (by omega) (by omega)) rfl rfl ?_|refine callV.flat _ yfn_83 (c83z b.y a.w (by omega) (by omega)) rfl rfl ?_|refine callV.flat _ yfn_83 (c83z a.z b.w (by omega) (by omega)) rfl rfl ?_|refine callV.flat _ yfn_83 (c83z b.z a.w (by omega) (by omega)) rfl rfl ?_)|(first|refine callV.flat _ yfn_97 (c97z (a.x*b.w) (b.x*a.w) (by omega) (by omega)) rfl rfl ?_|refine callV.flat _ yfn_97 (c97z (a.y*b.w) (b.y*a.w) (by omega) (by omega)) rfl rfl ?_|refine callV.flat _ yfn_97 (c97z (a.z*b.w) (b.z*a.w) (by omega) (by omega)) rfl rfl ?_)|refine ⟨by omega,?_⟩|(refine zb ?_ ?_<;>intro hg<;>(try rw[hg])<;>try simp only[NM]at hg)|omega|simp -dsimp (disch:=try exact zo) only[go_sem,k1,k2,k3]|contradiction|rfl)
end Go.Proofs.Vx
namespace Go.Proofs.Vx
open Go Go.Sx Go.Proofs
attribute [local irreducible] fnT CallOK CallFr AW effV callV runP runO oneP oneO gcaseP hid
theorem yqq_Nx18:agT Tryz.prog 26=some true∧fdT Tryz.prog 26 0=some (0,2,true)∧fdT Tryz.prog 26 1=some (2,2,true)∧fdT Tryz.prog 26 2=some (4,2,true)∧fdT Tryz.prog 26 3=some (6,2,true)∧plT Tryz.prog 26=some [(0,2),(2,2),(4,2),(6,2)]∧strT Tryz.prog 103=false∧szT Tryz.prog 26=some 8∧zeT Tryz.prog 26=some [.lit (.bool false),.lit (.string ⟨#[]⟩),.lit (.bool false),.lit (.string ⟨#[]⟩),.lit (.bool false),.lit (.string ⟨#[]⟩),.lit (.bool false),.lit (.string ⟨#[]⟩)]:=by and_intros<;>kernel_rfl
attribute [go_sem] yqq_Nx18
theorem yfn_22:fnT Tryz.prog 22=true:=by kernel_rfl
theorem yfn_34:fnT Tryz.prog 34=true:=by kernel_rfl
theorem yfn_72:fnT Tryz.prog 72=true:=by kernel_rfl
theorem yfn_74:fnT Tryz.prog 74=true:=by kernel_rfl
theorem yfn_124:fnT Tryz.prog 124=true:=by kernel_rfl
theorem yfn_168:fnT Tryz.prog 168=true:=by kernel_rfl
set_option maxHeartbeats 6400000 in
theorem c96 (a b c:Rat) (ka:Qs 1073741824 a) (kb:Qs 1073741824 b) (kc:Qs 1073741824 c):CallOK Tryz.prog 96 [.agg (eV a b c)] [] (.agg (eP (mkP a b c))) []:=by
 refine CallOK.flat Tryz.func96 rfl 63 rfl rfl rfl [.cell 2 51] (congrArg Array.toList Tryz.results96) ?_
 simp only[startT,Nat.reduceAdd]
 have na:=ka.num
 have da:=ka.den'
 have nb:=kb.num
 have db:=kb.den'
 have nc:=kc.num
 have dc:=kc.den'
 have z1:(Zm 1).size≤1:=by rw[Zm_size];decide
 have w1:=zs_mul 1 (a.den:Int) z1 da
 have w2:=zs_mul (1*(a.den:Int)) (b.den:Int) w1 db
 have w3:=zs_mul (1*(a.den:Int)*(b.den:Int)) (c.den:Int) w2 dc
 have qa:=Nat.le_trans (zs_ediv (1*(a.den:Int)*(b.den:Int)*(c.den:Int)) (a.den:Int)) (Nat.succ_le_succ w3)
 have ra:=zs_mul a.num ((1*(a.den:Int)*(b.den:Int)*(c.den:Int)) / (a.den:Int)) na qa
 have qb:=Nat.le_trans (zs_ediv (1*(a.den:Int)*(b.den:Int)*(c.den:Int)) (b.den:Int)) (Nat.succ_le_succ w3)
 have rb:=zs_mul b.num ((1*(a.den:Int)*(b.den:Int)*(c.den:Int)) / (b.den:Int)) nb qb
 have qc:=Nat.le_trans (zs_ediv (1*(a.den:Int)*(b.den:Int)*(c.den:Int)) (c.den:Int)) (Nat.succ_le_succ w3)
 have rc:=zs_mul c.num ((1*(a.den:Int)*(b.den:Int)*(c.den:Int)) / (c.den:Int)) nc qc
 have hbs:Bs 17179869183 (a.num*((1*(a.den:Int)*(b.den:Int)*(c.den:Int)) / (a.den:Int))) (b.num*((1*(a.den:Int)*(b.den:Int)*(c.den:Int)) / (b.den:Int))) (c.num*((1*(a.den:Int)*(b.den:Int)*(c.den:Int)) / (c.den:Int))) (1*(a.den:Int)*(b.den:Int)*(c.den:Int)):=⟨by omega,by omega,by omega,by omega⟩
 repeat' (first|refine zg ?_|refine AW.unroll 6 ?_|(refine AW.cond rfl ?_ ?_<;>intro hc<;>try simp only[NM]at hc)|refine zr ?_|(refine callV.flat _ yfn_67 (c67 1 (by omega)) rfl rfl ?_)|(first|refine callV.flat _ yfn_164 (c164 a (Qs.mono ka (by omega))) rfl rfl ?_|refine callV.flat _ yfn_164 (c164 b (Qs.mono kb (by omega))) rfl rfl ?_|refine callV.flat _ yfn_164 (c164 c (Qs.mono kc (by omega))) rfl rfl ?_)|(first|refine callV.flat _ yfn_83 (c83z (1) ((a.den:Int)) (by omega) (by omega)) rfl rfl ?_|refine callV.flat _ yfn_83 (c83z (1*(a.den:Int)) ((b.den:Int)) (by omega) (by omega)) rfl rfl ?_|refine callV.flat _ yfn_83 (c83z (1*(a.den:Int)*(b.den:Int)) ((c.den:Int)) (by omega) (by omega)) rfl rfl ?_|refine callV.flat _ yfn_83 (c83z (a.num) ((1*(a.den:Int)*(b.den:Int)*(c.den:Int)) / (a.den:Int)) (by omega) (by omega)) rfl rfl ?_|refine callV.flat _ yfn_83 (c83z (b.num) ((1*(a.den:Int)*(b.den:Int)*(c.den:Int)) / (b.den:Int)) (by omega) (by omega)) rfl rfl ?_|refine callV.flat _ yfn_83 (c83z (c.num) ((1*(a.den:Int)*(b.den:Int)*(c.den:Int)) / (c.den:Int)) (by omega) (by omega)) rfl rfl ?_)|(first|refine callV.flat _ yfn_165 (c165z (1*(a.den:Int)*(b.den:Int)*(c.den:Int)) (a.den:Int) (by omega) (by omega) (den_ne a)) rfl rfl ?_|refine callV.flat _ yfn_165 (c165z (1*(a.den:Int)*(b.den:Int)*(c.den:Int)) (b.den:Int) (by omega) (by omega) (den_ne b)) rfl rfl ?_|refine callV.flat _ yfn_165 (c165z (1*(a.den:Int)*(b.den:Int)*(c.den:Int)) (c.den:Int) (by omega) (by omega) (den_ne c)) rfl rfl ?_)|(refine callV.flat _ yfn_98 (c98z _ _ _ _ hbs) rfl rfl ?_)|refine ⟨by omega,?_⟩|(refine zb ?_ ?_<;>intro hg<;>(try rw[hg])<;>try simp only[NM]at hg)|omega|simp -dsimp (disch:=try exact zo) only[go_sem]|contradiction|rfl)
set_option maxHeartbeats 1600000 in
theorem c72 (n1:Bool) (m1:ByteArray) (n2:Bool) (m2:ByteArray) (n3:Bool) (m3:ByteArray) (n4:Bool) (m4:ByteArray):CallOK Tryz.prog 72 [.agg [.lit (.bool n1),.lit (.string m1),.lit (.bool n2),.lit (.string m2),.lit (.bool n3),.lit (.string m3),.lit (.bool n4),.lit (.string m4)]] [] (.agg [.lit (.bool n1),.lit (.string m1),.lit (.bool n2),.lit (.string m2),.lit (.bool n3),.lit (.string m3),.lit (.bool n4),.lit (.string m4)]) []:=by
 refine CallOK.flat Tryz.func72 rfl 12 rfl rfl rfl [.cell 2 95] (congrArg Array.toList Tryz.results72) ?_
 simp only[startT,Nat.reduceAdd]
 repeat' (first|refine zg ?_|(refine AW.cond rfl ?_ ?_<;>intro hc<;>try simp only[NM]at hc)|refine zr ?_|refine ⟨by omega,?_⟩|(refine zb ?_ ?_<;>intro hg<;>(try rw[hg])<;>try simp only[NM]at hg)|omega|simp -dsimp (disch:=try exact zo) only[go_sem]|contradiction|rfl)
set_option maxHeartbeats 1600000 in
theorem c74 (n1:Bool) (m1:ByteArray) (n2:Bool) (m2:ByteArray) (n3:Bool) (m3:ByteArray) (n4:Bool) (m4:ByteArray):CallOK Tryz.prog 74 [.agg [.lit (.bool n1),.lit (.string m1),.lit (.bool n2),.lit (.string m2),.lit (.bool n3),.lit (.string m3),.lit (.bool n4),.lit (.string m4)]] [] (.agg [.lit (.bool n1),.lit (.string m1),.lit (.bool n2),.lit (.string m2),.lit (.bool n3),.lit (.string m3),.lit (.bool n4),.lit (.string m4)]) []:=by
 refine CallOK.flat Tryz.func74 rfl 12 rfl rfl rfl [.cell 2 26] (congrArg Array.toList Tryz.results74) ?_
 simp only[startT,Nat.reduceAdd]
 repeat' (first|refine zg ?_|(refine AW.cond rfl ?_ ?_<;>intro hc<;>try simp only[NM]at hc)|refine zr ?_|refine ⟨by omega,?_⟩|(refine zb ?_ ?_<;>intro hg<;>(try rw[hg])<;>try simp only[NM]at hg)|omega|simp -dsimp (disch:=try exact zo) only[go_sem]|contradiction|rfl)
def g3 (x y z:Int):Nat:=Nat.gcd (Nat.gcd x.natAbs y.natAbs) z.natAbs
theorem g3_zero {x y z:Int}:g3 x y z=0↔x=0∧y=0∧z=0:=by
 unfold g3
 rw[Nat.gcd_eq_zero_iff,Nat.gcd_eq_zero_iff]
 omega
theorem g4_g3 (x y z w:Int):g4 x y z w=Nat.gcd (g3 x y z) w.natAbs:=rfl
theorem natAbs_iv (n:Bool) (m:ByteArray):(iv n m).natAbs=nv m:=by unfold iv;cases n<;>simp
theorem c165r (n:Bool) (m:ByteArray) (b:Int) (ha:m.size<68719476736) (hb:(Zm b).size<68719476736) (h:b≠0):CallOK Tryz.prog 165 [.agg (eI n m),.agg (eZ b)] [] (.tup [.agg (eZ (iv n m / b)),.agg (eZ (iv n m % b)),.lit (.bool true)]) []:=by
 have:=c165 n m (Zn b) (Zm b) ha hb
 rwa [iv_Z,if_neg h]at this
theorem c167r (l:List RI) (k:Nat) (hk:gcdN l=k) (h:∀ p∈l,p.2.size<68719476736) (hn:l.length<1099511627776):CallOK Tryz.prog 167 [.sl (ris l)] [] (.agg (eZ (k:Int))) []:=by
 subst hk;exact c167 l h hn
set_option maxHeartbeats 8000000 in
theorem c168 (n1:Bool) (m1:ByteArray) (n2:Bool) (m2:ByteArray) (n3:Bool) (m3:ByteArray) (n4:Bool) (m4:ByteArray) (h1:m1.size<17179869184) (h2:m2.size<17179869184) (h3:m3.size<17179869184) (h4:m4.size<17179869184):CallOK Tryz.prog 168 [.agg [.lit (.bool n1),.lit (.string m1),.lit (.bool n2),.lit (.string m2),.lit (.bool n3),.lit (.string m3),.lit (.bool n4),.lit (.string m4)]] [] (if iv n1 m1=0∧iv n2 m2=0∧iv n3 m3=0 then .tup [.agg (eH ⟨0,0,0,0⟩),.lit (.bool false)]else .tup [.agg (eH (pnrm (iv n1 m1) (iv n2 m2) (iv n3 m3) (iv n4 m4))),.lit (.bool true)]) []:=by
 refine CallOK.flat Tryz.func168 rfl 33 rfl rfl (by split<;>rfl) [.cell 2 26,.tmp 3] (congrArg Array.toList Tryz.results168) ?_
 simp only[startT,Nat.reduceAdd]
 have cg3:=c167r [(n1,m1),(n2,m2),(n3,m3)] (g3 (iv n1 m1) (iv n2 m2) (iv n3 m3)) (by simp only[gcdN,List.foldl_cons,List.foldl_nil,Nat.gcd_zero_left,g3,natAbs_iv]) (by simp only[List.forall_mem_cons];exact ⟨by omega,by omega,by omega,by simp⟩) (by simp)
 have cg4:=c167r [(n1,m1),(n2,m2),(n3,m3),(n4,m4)] (g4 (iv n1 m1) (iv n2 m2) (iv n3 m3) (iv n4 m4)) (by simp only[gcdN,List.foldl_cons,List.foldl_nil,Nat.gcd_zero_left,g4,natAbs_iv]) (by simp only[List.forall_mem_cons];exact ⟨by omega,by omega,by omega,by omega,by simp⟩) (by simp)
 simp only[ris,List.map_cons,List.map_nil]at cg3 cg4
 have t1:=zs_iv n1 m1
 have t2:=zs_iv n2 m2
 have t3:=zs_iv n3 m3
 generalize hx:iv n1 m1=x at *
 generalize hy:iv n2 m2=y at *
 generalize hz:iv n3 m3=z at *
 generalize hw:iv n4 m4=w at *
 have hle:(Zm (g3 x y z:Int)).size≤17179869184:=by
  by_cases h0:g3 x y z=0
  ·rw[h0];rw[show ((0:Nat):Int)=0 from rfl,Zm_zero];exact Nat.zero_le _
  ·have hd:g3 x y z∣x.natAbs:=Nat.dvd_trans (Nat.gcd_dvd_left _ _) (Nat.gcd_dvd_left _ _)
   have hd2:g3 x y z∣y.natAbs:=Nat.dvd_trans (Nat.gcd_dvd_left _ _) (Nat.gcd_dvd_right _ _)
   have hd3:g3 x y z∣z.natAbs:=Nat.gcd_dvd_right _ _
   by_cases hx0:x=0
   ·by_cases hy0:y=0
    ·have hz0:z≠0:=fun h=>h0 (g3_zero.2 ⟨hx0,hy0,h⟩)
     have:(Zm (g3 x y z:Int)).size≤(Zm z).size:=zs_le (by rw[Int.natAbs_natCast];exact Nat.le_of_dvd (by omega) hd3)
     omega
    ·have:(Zm (g3 x y z:Int)).size≤(Zm y).size:=zs_le (by rw[Int.natAbs_natCast];exact Nat.le_of_dvd (by omega) hd2)
     omega
   ·have:(Zm (g3 x y z:Int)).size≤(Zm x).size:=zs_le (by rw[Int.natAbs_natCast];exact Nat.le_of_dvd (by omega) hd)
    omega
 by_cases h0:x=0∧y=0∧z=0
 ·rw[if_pos h0]
  have hs3:(sg (g3 x y z:Int)=0)=True:=eq_true (sg_zero.2 (by rw[g3_zero.2 h0];rfl))
  have ez:eH ⟨0,0,0,0⟩=[.lit (.bool false),.lit (.string ⟨#[]⟩),.lit (.bool false),.lit (.string ⟨#[]⟩),.lit (.bool false),.lit (.string ⟨#[]⟩),.lit (.bool false),.lit (.string ⟨#[]⟩)]:=by simp[eH,Zn,Zm,nb_zero]
  have hg0:True:=trivial
  rw[ez]
  clear h0
  repeat' (first|refine zg ?_|refine AW.unroll 6 ?_|(refine AW.cond rfl ?_ ?_<;>intro hc<;>try simp only[NM]at hc)|refine zr ?_|(refine callV.flat _ yfn_72 (c72 n1 m1 n2 m2 n3 m3 n4 m4) rfl rfl ?_)|(first|refine callV.lend (.agg (eZ (g3 x y z:Int))) yfn_167 (by simp -dsimp (disch:=try exact zo) only[go_sem];exact cg3) (by simp -dsimp (disch:=try exact zo) only[go_sem]) (.agg _ (by simp;exact ⟨.lit _,.lit _⟩)) ?_|refine callV.lend (.agg (eZ (g4 x y z w:Int))) yfn_167 (by simp -dsimp (disch:=try exact zo) only[go_sem];exact cg4) (by simp -dsimp (disch:=try exact zo) only[go_sem]) (.agg _ (by simp;exact ⟨.lit _,.lit _⟩)) ?_)|(refine callV.flat _ yfn_76 (c76z (g3 x y z:Int) (by omega)) rfl rfl ?_)|(first|refine callV.flat _ yfn_165 (hx▸c165r n1 m1 (g4 x y z w:Int) (by omega) (by omega) hg0) rfl rfl ?_|refine callV.flat _ yfn_165 (hy▸c165r n2 m2 (g4 x y z w:Int) (by omega) (by omega) hg0) rfl rfl ?_|refine callV.flat _ yfn_165 (hz▸c165r n3 m3 (g4 x y z w:Int) (by omega) (by omega) hg0) rfl rfl ?_|refine callV.flat _ yfn_165 (hw▸c165r n4 m4 (g4 x y z w:Int) (by omega) (by omega) hg0) rfl rfl ?_)|(refine callV.flat _ yfn_74 (c74 _ _ _ _ _ _ _ _) rfl rfl ?_)|refine ⟨by omega,?_⟩|(refine zb ?_ ?_<;>intro hg<;>(try rw[hg])<;>try simp only[NM]at hg)|omega|simp -dsimp (disch:=try exact zo) only[go_sem,hs3]|contradiction|rfl)
 ·rw[if_neg h0]
  have hs3:(sg (g3 x y z:Int)=0)=False:=eq_false fun h=>h0 (g3_zero.1 (by have:=sg_zero.1 h;omega))
  have hgp:0<g4 x y z w:=by
   rw[g4_g3]
   exact Nat.gcd_pos_of_pos_left _ (Nat.pos_of_ne_zero fun h=>h0 (g3_zero.1 h))
  have hg0:(g4 x y z w:Int)≠0:=by omega
  have s6:(Zm (g4 x y z w:Int)).size≤17179869184:=by
   refine Nat.le_trans (zs_le ?_) hle
   rw[Int.natAbs_natCast,Int.natAbs_natCast,g4_g3]
   exact Nat.le_of_dvd (Nat.pos_of_ne_zero fun h=>h0 (g3_zero.1 h)) (Nat.gcd_dvd_left _ _)
  unfold pnrm
  clear h0
  repeat' (first|refine zg ?_|refine AW.unroll 6 ?_|(refine AW.cond rfl ?_ ?_<;>intro hc<;>try simp only[NM]at hc)|refine zr ?_|(refine callV.flat _ yfn_72 (c72 n1 m1 n2 m2 n3 m3 n4 m4) rfl rfl ?_)|(first|refine callV.lend (.agg (eZ (g3 x y z:Int))) yfn_167 (by simp -dsimp (disch:=try exact zo) only[go_sem];exact cg3) (by simp -dsimp (disch:=try exact zo) only[go_sem]) (.agg _ (by simp;exact ⟨.lit _,.lit _⟩)) ?_|refine callV.lend (.agg (eZ (g4 x y z w:Int))) yfn_167 (by simp -dsimp (disch:=try exact zo) only[go_sem];exact cg4) (by simp -dsimp (disch:=try exact zo) only[go_sem]) (.agg _ (by simp;exact ⟨.lit _,.lit _⟩)) ?_)|(refine callV.flat _ yfn_76 (c76z (g3 x y z:Int) (by omega)) rfl rfl ?_)|(first|refine callV.flat _ yfn_165 (hx▸c165r n1 m1 (g4 x y z w:Int) (by omega) (by omega) hg0) rfl rfl ?_|refine callV.flat _ yfn_165 (hy▸c165r n2 m2 (g4 x y z w:Int) (by omega) (by omega) hg0) rfl rfl ?_|refine callV.flat _ yfn_165 (hz▸c165r n3 m3 (g4 x y z w:Int) (by omega) (by omega) hg0) rfl rfl ?_|refine callV.flat _ yfn_165 (hw▸c165r n4 m4 (g4 x y z w:Int) (by omega) (by omega) hg0) rfl rfl ?_)|(refine callV.flat _ yfn_74 (c74 _ _ _ _ _ _ _ _) rfl rfl ?_)|refine ⟨by omega,?_⟩|(refine zb ?_ ?_<;>intro hg<;>(try rw[hg])<;>try simp only[NM]at hg)|omega|simp -dsimp (disch:=try exact zo) only[go_sem,hs3]|contradiction|rfl)
end Go.Proofs.Vx
namespace Go.Sx
set_option linter.unusedVariables false
theorem bo_eq (a b:Int):decide (Zn a=Zn b∧Zm a=Zm b)=decide (a=b):=by
 by_cases h:a=b
 ·subst h;simp
 ·have:¬ (Zn a=Zn b∧Zm a=Zm b):=fun h'=>h (eZ_inj h'.1 h'.2)
  simp[h,this]
theorem eq4 (a b c d a' b' c' d' : Int) : eqCs [.lit (.bool (Zn a)), .lit (.string (Zm a)), .lit (.bool (Zn b)), .lit (.string (Zm b)), .lit (.bool (Zn c)), .lit (.string (Zm c)), .lit (.bool (Zn d)), .lit (.string (Zm d))]
  [.lit (.bool (Zn a')),.lit (.string (Zm a')),.lit (.bool (Zn b')),.lit (.string (Zm b')),.lit (.bool (Zn c')),.lit (.string (Zm c')),.lit (.bool (Zn d')),.lit (.string (Zm d'))]=decide (a=a'∧b=b'∧c=c'∧d=d'):=by
 have h1:=bo_eq a a'
 have h2:=bo_eq b b'
 have h3:=bo_eq c c'
 have h4:=bo_eq d d'
 simp only[eqCs,ceq,Bool.and_true]
 simp only[decide_eq_decide]at h1 h2 h3 h4
 rw[Bool.eq_iff_iff]
 simp only[Bool.and_eq_true,beq_iff_eq,decide_eq_true_eq]
 constructor
 ·rintro ⟨q1,q2,q3,q4,q5,q6,q7,q8⟩
  exact ⟨h1.1 ⟨q1,q2⟩,h2.1 ⟨q3,q4⟩,h3.1 ⟨q5,q6⟩,h4.1 ⟨q7,q8⟩⟩
 ·rintro ⟨rfl,rfl,rfl,rfl⟩
  simp
attribute [go_sem ↓] eq4
def abv (p:Pl) (x:Pt):Int:=p.a*x.x+p.b*x.y+p.c*x.z - p.d*x.w
def sideP (p:Pl) (x:Pt):Int:=sg (abv p x)
def negP (p:Pl):Pl:=⟨-p.a,-p.b,-p.c,-p.d⟩
theorem abv_neg (p:Pl) (x:Pt):abv (negP p) x=- abv p x:=by unfold abv negP;simp only[Int.neg_mul];omega
def meetP (p:Pl) (a b:Pt):Pt:=nrm (a.x*abv p b - b.x*abv p a) (a.y*abv p b - b.y*abv p a) (a.z*abv p b - b.z*abv p a) (a.w*abv p b - b.w*abv p a)
structure BPt (k:Nat) (p:Pt):Prop where
 out:Bs k p.x p.y p.z p.w
structure BPl (k:Nat) (p:Pl):Prop where
 out:Bs k p.a p.b p.c p.d
theorem BPt.mono {k l:Nat} {p:Pt} (h:BPt k p) (hl:k≤l):BPt l p:=⟨⟨Nat.le_trans h.out.a hl,Nat.le_trans h.out.b hl,Nat.le_trans h.out.c hl,Nat.le_trans h.out.d hl⟩⟩
theorem BPl.mono {k l:Nat} {p:Pl} (h:BPl k p) (hl:k≤l):BPl l p:=⟨⟨Nat.le_trans h.out.a hl,Nat.le_trans h.out.b hl,Nat.le_trans h.out.c hl,Nat.le_trans h.out.d hl⟩⟩
theorem zs_abv {p:Pl} {x:Pt} {k l:Nat} (hp:BPl k p) (hx:BPt l x):(Zm (abv p x)).size≤k+l+3:=by
 have h1:=zs_mul p.a x.x hp.out.a hx.out.a
 have h2:=zs_mul p.b x.y hp.out.b hx.out.b
 have h3:=zs_mul p.c x.z hp.out.c hx.out.c
 have h4:=zs_mul p.d x.w hp.out.d hx.out.d
 exact zs_sub _ _ (zs_add _ _ (zs_add _ _ h1 h2) (by omega)) (by omega)
theorem BPl.neg {k:Nat} {p:Pl} (h:BPl k p):BPl k (negP p):=⟨⟨by simpa [negP,Zm_neg]using h.out.a,by simpa [negP,Zm_neg]using h.out.b,by simpa [negP,Zm_neg]using h.out.c,by simpa [negP,Zm_neg]using h.out.d⟩⟩
theorem meet_bs {p:Pl} {a b:Pt} {k l:Nat} (hp:BPl k p) (ha:BPt l a) (hb:BPt l b):BPt (k+2*l+4) (meetP p a b):=by
 have h1:=zs_abv hp ha
 have h2:=zs_abv hp hb
 have key:∀ x y:Int,(Zm x).size≤l→(Zm y).size≤l→(Zm (x*abv p b - y*abv p a)).size≤k+2*l+4:=fun x y hx hy =>
  Nat.le_trans (zs_sub _ _ (zs_mul x _ hx h2) (zs_mul y _ hy h1)) (by omega)
 exact ⟨nrm_bs ⟨key _ _ ha.out.a hb.out.a,key _ _ ha.out.b hb.out.b,key _ _ ha.out.c hb.out.c,key _ _ ha.out.d hb.out.d⟩ (by omega)⟩
theorem meet_can (p:Pl) (a b:Pt):CanP (meetP p a b):=nrm_isCan _ _ _ _
end Go.Sx
