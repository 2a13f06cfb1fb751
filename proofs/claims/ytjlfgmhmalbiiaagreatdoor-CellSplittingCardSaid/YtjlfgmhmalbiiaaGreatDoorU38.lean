import Derived.Test.YtjlfgmhmalbiiaaGreatDoorProg
import Derived.Test.YtjlfgmhmalbiiaaGreatDoorU05
import Derived.Test.YtjlfgmhmalbiiaaGreatDoorU07
import Derived.Test.YtjlfgmhmalbiiaaGreatDoorU10
import Derived.Test.YtjlfgmhmalbiiaaGreatDoorU31
import Derived.Test.YtjlfgmhmalbiiaaGreatDoorU34
import Derived.Test.YtjlfgmhmalbiiaaGreatDoorU35
set_option linter.all false
namespace Go.Proofs.Vx
open Go Go.Sx Go.Proofs
attribute [local irreducible] fnT CallOK CallFr AW effV callV runP runO oneP oneO gcaseP hid
theorem yfn_218:fnT Tryz.prog 218=true:=by kernel_rfl
theorem yfn_248:fnT Tryz.prog 248=true:=by kernel_rfl
theorem yfn_265:fnT Tryz.prog 265=true:=by kernel_rfl
def e3Z (x y z:Int):List AV:=[.lit (.bool (Zn x)),.lit (.string (Zm x)),.lit (.bool (Zn y)),.lit (.string (Zm y)),.lit (.bool (Zn z)),.lit (.string (Zm z))]
theorem zs_sub {a b:Int} {k:Nat} (ha:(Zm a).size≤k) (hb:(Zm b).size≤k):(Zm (a - b)).size≤k+1:=by
 have h:(Zm (-b)).size≤k:=Nat.le_trans (zs_le (by simp)) hb
 have:=zs_add a (-b) ha h
 rw[← Int.sub_eq_add_neg]at this
 exact this
theorem zs_det {a b c d:Int} {k:Nat} (ha:(Zm a).size≤k) (hb:(Zm b).size≤k) (hc:(Zm c).size≤k) (hd:(Zm d).size≤k):(Zm (a*b - c*d)).size≤2*k+1 :=
 Nat.le_trans (zs_sub (zs_mul a b ha hb) (zs_mul c d hc hd)) (by omega)
def leftP (p:Pl) (a b x:Pt):Int :=
 0+p.a*((b.y*a.w - a.y*b.w)*(x.z*a.w - a.z*x.w) - (b.z*a.w - a.z*b.w)*(x.y*a.w - a.y*x.w)) +
  p.b*((b.z*a.w - a.z*b.w)*(x.x*a.w - a.x*x.w) - (b.x*a.w - a.x*b.w)*(x.z*a.w - a.z*x.w)) +
  p.c*((b.x*a.w - a.x*b.w)*(x.y*a.w - a.y*x.w) - (b.y*a.w - a.y*b.w)*(x.x*a.w - a.x*x.w))
set_option maxHeartbeats 1600000 in
theorem c265 (s t:Int) (a b:Pt) (hs:(Zm s).size≤100000) (ht:(Zm t).size≤100000) (ha:(Zm a.w).size≤100000) (hb:(Zm b.w).size≤100000):CallOK Tryz.prog 265 [.agg (eZ s),.agg (eZ t),.fp (eP a),.fp (eP b)] [] (.agg (eZ (s*a.w - t*b.w))) []:=by
 refine CallOK.flat Tryz.func265 rfl 16 rfl rfl rfl [.cell 6 24] (congrArg Array.toList Tryz.results265) ?_
 simp only[startT,Nat.reduceAdd]
 have c1:=c83z s a.w (by omega) (by omega)
 have c2:=c83z t b.w (by omega) (by omega)
 have e1:=zs_mul s a.w hs ha
 have e2:=zs_mul t b.w ht hb
 have c3:=c166z (s*a.w) (t*b.w) (by omega) (by omega)
 generalize s*a.w=u at *
 generalize t*b.w=v at *
 simp only[eP,e4]
 repeat' (first|refine zg ?_|(refine AW.cond rfl ?_ ?_<;>intro hc<;>first|simp only[NM]at hc|omega|skip)|refine zr ?_|(first|refine callV.flat _ yfn_83 c1 rfl rfl ?_|refine callV.flat _ yfn_83 c2 rfl rfl ?_)|(refine callV.flat _ yfn_166 c3 rfl rfl ?_)|refine ⟨by omega,?_⟩|(refine zb ?_ ?_<;>intro hg<;>(try rw[hg])<;>try simp only[NM]at hg)|omega|simp -dsimp (disch:=try exact zo) only[go_sem]|contradiction|rfl)
set_option maxHeartbeats 1600000 in
theorem c248 (a b:Pt) (ha:BPt 100000 a) (hb:BPt 100000 b):CallOK Tryz.prog 248 [.agg (eP a),.agg (eP b)] [] (.agg (e3Z (b.x*a.w - a.x*b.w) (b.y*a.w - a.y*b.w) (b.z*a.w - a.z*b.w))) []:=by
 refine CallOK.flat Tryz.func248 rfl 26 rfl rfl rfl [.cell 4 121] (congrArg Array.toList Tryz.results248) ?_
 simp only[startT,Nat.reduceAdd]
 have kx:=c265 b.x a.x a b hb.out.a ha.out.a ha.out.d hb.out.d
 have ky:=c265 b.y a.y a b hb.out.b ha.out.b ha.out.d hb.out.d
 have kz:=c265 b.z a.z a b hb.out.c ha.out.c ha.out.d hb.out.d
 generalize b.x*a.w - a.x*b.w=u at *
 generalize b.y*a.w - a.y*b.w=v at *
 generalize b.z*a.w - a.z*b.w=w at *
 simp only[eP,e4,eZ]at kx ky kz
 simp only[eP,e4]
 repeat' (first|refine zg ?_|(refine AW.cond rfl ?_ ?_<;>intro hc<;>first|simp only[NM]at hc|omega|skip)|refine zr ?_|(first|refine callV.lend _ yfn_265 (by simp -dsimp (disch:=try exact zo) only[go_sem];exact kx) (by simp -dsimp (disch:=try exact zo) only[go_sem]) (.agg _ (by simp;exact ⟨.lit _,.lit _⟩)) ?_|refine callV.lend _ yfn_265 (by simp -dsimp (disch:=try exact zo) only[go_sem];exact ky) (by simp -dsimp (disch:=try exact zo) only[go_sem]) (.agg _ (by simp;exact ⟨.lit _,.lit _⟩)) ?_|refine callV.lend _ yfn_265 (by simp -dsimp (disch:=try exact zo) only[go_sem];exact kz) (by simp -dsimp (disch:=try exact zo) only[go_sem]) (.agg _ (by simp;exact ⟨.lit _,.lit _⟩)) ?_)|refine ⟨by omega,?_⟩|(refine zb ?_ ?_<;>intro hg<;>(try rw[hg])<;>try simp only[NM]at hg)|omega|simp -dsimp (disch:=try exact zo) only[go_sem]|contradiction|rfl)
set_option maxRecDepth 20000 in
set_option maxHeartbeats 16000000 in
theorem c218 (p:Pl) (a b x:Pt) (hp:BPl 100000 p) (ha:BPt 100000 a) (hb:BPt 100000 b) (hx:BPt 100000 x):CallOK Tryz.prog 218 [.agg (eH p),.agg (eP a),.agg (eP b),.agg (eP x)] [] (.lit (.int .i64 (sg (leftP p a b x)))) []:=by
 refine CallOK.flat Tryz.func218 rfl 62 rfl rfl rfl [.tmp 8] (congrArg Array.toList Tryz.results218) ?_
 simp only[startT,Nat.reduceAdd]
 have hml:maxLen=9223372036854775807:=rfl
 have ku:=c248 a b ha hb
 have kv:=c248 a x ha hx
 have zu0:=zs_det hb.out.a ha.out.d ha.out.a hb.out.d
 have zu1:=zs_det hb.out.b ha.out.d ha.out.b hb.out.d
 have zu2:=zs_det hb.out.c ha.out.d ha.out.c hb.out.d
 have zv0:=zs_det hx.out.a ha.out.d ha.out.a hx.out.d
 have zv1:=zs_det hx.out.b ha.out.d ha.out.b hx.out.d
 have zv2:=zs_det hx.out.c ha.out.d ha.out.c hx.out.d
 have zn0:=hp.out.a
 have zn1:=hp.out.b
 have zn2:=hp.out.c
 unfold leftP
 generalize b.x*a.w - a.x*b.w=u0 at *
 generalize b.y*a.w - a.y*b.w=u1 at *
 generalize b.z*a.w - a.z*b.w=u2 at *
 generalize x.x*a.w - a.x*x.w=v0 at *
 generalize x.y*a.w - a.y*x.w=v1 at *
 generalize x.z*a.w - a.z*x.w=v2 at *
 simp only[eH,e4]
 generalize p.a=n0 at *
 generalize p.b=n1 at *
 generalize p.c=n2 at *
 have a0:=c83z u1 v2 (by omega) (by omega)
 have b0:=c83z u2 v1 (by omega) (by omega)
 have za0:=zs_mul u1 v2 zu1 zv2
 have zb0:=zs_mul u2 v1 zu2 zv1
 have d0:=c166z (u1*v2) (u2*v1) (by omega) (by omega)
 have zd0:=zs_sub za0 zb0
 generalize u1*v2=A0 at *
 generalize u2*v1=B0 at *
 generalize A0 - B0=D0 at *
 have m0:=c83z n0 D0 (by omega) (by omega)
 have zm0:=zs_mul n0 D0 zn0 zd0
 generalize n0*D0=M0 at *
 have a1:=c83z u2 v0 (by omega) (by omega)
 have b1:=c83z u0 v2 (by omega) (by omega)
 have za1:=zs_mul u2 v0 zu2 zv0
 have zb1:=zs_mul u0 v2 zu0 zv2
 have d1:=c166z (u2*v0) (u0*v2) (by omega) (by omega)
 have zd1:=zs_sub za1 zb1
 generalize u2*v0=A1 at *
 generalize u0*v2=B1 at *
 generalize A1 - B1=D1 at *
 have m1:=c83z n1 D1 (by omega) (by omega)
 have zm1:=zs_mul n1 D1 zn1 zd1
 generalize n1*D1=M1 at *
 have a2:=c83z u0 v1 (by omega) (by omega)
 have b2:=c83z u1 v0 (by omega) (by omega)
 have za2:=zs_mul u0 v1 zu0 zv1
 have zb2:=zs_mul u1 v0 zu1 zv0
 have d2:=c166z (u0*v1) (u1*v0) (by omega) (by omega)
 have zd2:=zs_sub za2 zb2
 generalize u0*v1=A2 at *
 generalize u1*v0=B2 at *
 generalize A2 - B2=D2 at *
 have m2:=c83z n2 D2 (by omega) (by omega)
 have zm2:=zs_mul n2 D2 zn2 zd2
 generalize n2*D2=M2 at *
 have t0:=c82z 0 M0 (by rw[Zm_zero];decide) (by omega)
 rw[Int.zero_add]at t0
 simp only[Int.zero_add]
 have t1:=c82z M0 M1 (by omega) (by omega)
 have zt1:=zs_add M0 M1 (k:=600000) (by omega) (by omega)
 generalize M0+M1=T1 at *
 have t2:=c82z T1 M2 (by omega) (by omega)
 have zt2:=zs_add T1 M2 (k:=600001) (by omega) (by omega)
 generalize T1+M2=T2 at *
 have sg2:=c76z T2 (by omega)
 simp only[e3Z]at ku kv
 have hz1:Zn 0=false:=by decide
 have hz2:Zm 0=⟨#[]⟩:=Zm_zero
 simp only[eZ,hz1,hz2]at t0
 repeat' (first|refine zg ?_|refine AW.unroll 6 ?_|(refine AW.cond rfl ?_ ?_<;>intro hc<;>first|simp only[NM]at hc|omega|skip)|refine zr ?_|(first|refine callV.flat _ yfn_83 a0 rfl rfl ?_|refine callV.flat _ yfn_83 b0 rfl rfl ?_|refine callV.flat _ yfn_83 m0 rfl rfl ?_|refine callV.flat _ yfn_83 a1 rfl rfl ?_|refine callV.flat _ yfn_83 b1 rfl rfl ?_|refine callV.flat _ yfn_83 m1 rfl rfl ?_|refine callV.flat _ yfn_83 a2 rfl rfl ?_|refine callV.flat _ yfn_83 b2 rfl rfl ?_|refine callV.flat _ yfn_83 m2 rfl rfl ?_)|(first|refine callV.flat _ yfn_166 d0 rfl rfl ?_|refine callV.flat _ yfn_166 d1 rfl rfl ?_|refine callV.flat _ yfn_166 d2 rfl rfl ?_)|(first|refine callV.flat _ yfn_82 t0 rfl rfl ?_|refine callV.flat _ yfn_82 t1 rfl rfl ?_|refine callV.flat _ yfn_82 t2 rfl rfl ?_)|(refine callV.flat _ yfn_76 sg2 rfl rfl ?_)|(first|refine callV.flat _ yfn_248 ku rfl rfl ?_|refine callV.flat _ yfn_248 kv rfl rfl ?_)|refine ⟨by omega,?_⟩|(refine zb ?_ ?_<;>intro hg<;>(try rw[hg])<;>try simp only[NM]at hg)|omega|simp -dsimp (disch:=try exact zo) only[go_sem,Int.reduceMod,Int.reduceTMod]|contradiction|rfl)
end Go.Proofs.Vx
namespace Go.Proofs.Vx
open Go Go.Sx Go.Proofs
attribute [local irreducible] fnT CallOK CallFr AW effV callV runP runO oneP oneO gcaseP hid
theorem yfn_176:fnT Tryz.prog 176=true:=by kernel_rfl
structure Lefts (p:Pl) (vs:List Pt):Prop where
 out:∀ i (hi:i<vs.length) k (hk:k<vs.length) j (hj:j<vs.length),k=(i+1) % vs.length→j≠i→j≠k→0<leftP p vs[i] vs[k] vs[j]
set_option maxHeartbeats 16000000 in
theorem c176 (p:Pl) (vs:List Pt) (hn:vs.length≤268435456) (hp:BPl 100000 p) (hv:∀ v∈vs,BPt 100000 v) (H:Lefts p vs):CallOK Tryz.prog 176 [.agg (eG p vs)] [] (.lit (.bool true)) []:=by
 refine CallOK.flat Tryz.func176 rfl 50 rfl rfl rfl [.tmp 2] (congrArg Array.toList Tryz.results176) ?_
 simp only[startT,Nat.reduceAdd]
 have hml:maxLen=9223372036854775807:=rfl
 have hl:(vs.map eP).length=vs.length:=List.length_map _
 have c140w:=fun i hi=>c140 p vs i hi hn
 replace hv:=Hid.mk hv
 simp only[eG]at c140w
 simp only[eG]
 replace c140w:=Hid.mk c140w
 repeat' (first|refine zg ?_|(refine AW.cond rfl ?_ ?_<;>intro hc<;>first|simp only[NM]at hc|omega|skip)|refine zr ?_|refine ⟨by omega,?_⟩|(refine zb ?_ ?_<;>intro hg<;>(try rw[hg])<;>try simp only[NM]at hg)|omega|simp -dsimp (disch:=try exact zo) only[go_sem,hl]|contradiction|rfl)
 refine AW.loop (fun z:{i:Nat // i≤vs.length}=>⟨[(11,.lit (.int .i64 z.1)),(1,.loc 8 0),(9,.sl (vs.map eP)),(10,.lit (.int .i64 vs.length))],[(8,.blk [.lit (.bool (Zn p.a)),.lit (.string (Zm p.a)),.lit (.bool (Zn p.b)),.lit (.string (Zm p.b)),.lit (.bool (Zn p.c)),.lit (.string (Zm p.c)),.lit (.bool (Zn p.d)),.lit (.string (Zm p.d)),.sl (vs.map eP)])],60⟩) (fun z=>vs.length - z.1) ⟨0,Nat.zero_le _⟩ (Weak.t4 (by refine ⟨?_,?_,?_,?_⟩<;>simp -dsimp (disch:=try exact zo) only[go_sem,eP_in,ZC])) ?_
 rintro ⟨i,hi⟩
 dsimp only
 by_cases hlt:i<vs.length
 ·have ea:=eP_getD vs i hlt
  have c140v:=c140w.out i hlt
  obtain ⟨k,hk⟩:∃ k,k=(i+1) % vs.length:=⟨_,rfl⟩
  rw[← hk]at c140v
  have hkl:k<vs.length:=hk▸Nat.mod_lt _ (by omega)
  have ek:=eP_getD vs k hkl
  have hb:=hv.out _ (List.getElem_mem hlt)
  have hbk:=hv.out _ (List.getElem_mem hkl)
  have hL:=Hid.mk (fun j hj=>H.out i hlt k hkl j hj hk)
  clear hk
  generalize vs[k]=b at *
  generalize vs[i]=a at *
  simp only[eP,e4]at ea ek
  repeat' (first|refine zg ?_|(refine AW.cond rfl ?_ ?_<;>intro hc<;>first|simp only[NM]at hc|omega|skip)|refine zr ?_|(refine callV.plain _ yfn_140 c140v (by simp -dsimp (disch:=try exact zo) only[go_sem,eP_in]) (.lit _) ?_)|refine ⟨by omega,?_⟩|(refine zb ?_ ?_<;>intro hg<;>(try rw[hg])<;>try simp only[NM]at hg)|omega|simp -dsimp (disch:=try exact zo) only[go_sem,hl,ea,ZT,eP_in]|contradiction|rfl)
  refine AW.loop (fun z:{j:Nat // j≤vs.length}=>⟨[(22,.lit (.int .i64 z.1)),(21,.lit (.int .i64 vs.length)),(20,.sl (vs.map eP)),(3,.lit (.int .i64 i)),(4,.loc 64 0),(5,.lit (.int .i64 k)),(11,.lit (.int .i64 i)),(1,.loc 8 0),(9,.sl (vs.map eP)),(10,.lit (.int .i64 vs.length))],[(64,.blk (eP a)),(8,.blk [.lit (.bool (Zn p.a)),.lit (.string (Zm p.a)),.lit (.bool (Zn p.b)),.lit (.string (Zm p.b)),.lit (.bool (Zn p.c)),.lit (.string (Zm p.c)),.lit (.bool (Zn p.d)),.lit (.string (Zm p.d)),.sl (vs.map eP)])],100⟩) (fun z=>vs.length - z.1) ⟨0,Nat.zero_le _⟩ (Weak.t4 (by refine ⟨?_,?_,?_,?_⟩<;>simp -dsimp (disch:=try exact zo) only[go_sem,eP_in,ZC])) ?_
  rintro ⟨j,hj⟩
  dsimp only
  by_cases hjt:j<vs.length
  ·have ej:=eP_getD vs j hjt
   have hbj:=hv.out _ (List.getElem_mem hjt)
   have hlj:=hL.out j hjt
   generalize vs[j]=x at *
   simp only[eP,e4]at ej
   have cl:=c218 p a b x hp hb hbk hbj
   by_cases q1:j=i
   ·have k1:((j:Int)=(i:Int))=True:=eq_true (by omega)
    have k2:True:=trivial
    have k3:True:=trivial
    clear hlj cl
    repeat' (first|refine zg ?_|(refine AW.cond rfl ?_ ?_<;>intro hc<;>first|simp only[NM]at hc|omega|skip)|refine zr ?_|(refine callV.flat _ yfn_218 cl rfl rfl ?_)|refine ⟨by omega,?_⟩|(refine zb ?_ ?_<;>intro hg<;>(try rw[hg])<;>try simp only[NM]at hg)|omega|simp -dsimp (disch:=try exact zo) only[go_sem,hl,ej,ek,k1,k2,k3,ZT,eP_in]|contradiction|rfl)
    all_goals exact AW.stop ⟨⟨j+1,by omega⟩,(Weak.t4 (by refine ⟨?_,?_,?_,?_⟩<;>simp -dsimp (disch:=try exact zo) only[go_sem,eP_in,ZC])),by dsimp only;omega⟩
   ·have k1:((j:Int)=(i:Int))=False:=eq_false (by omega)
    by_cases q2:j=k
    ·have k2:((j:Int)=(k:Int))=True:=eq_true (by omega)
     have k3:True:=trivial
     clear hlj cl
     repeat' (first|refine zg ?_|(refine AW.cond rfl ?_ ?_<;>intro hc<;>first|simp only[NM]at hc|omega|skip)|refine zr ?_|(refine callV.flat _ yfn_218 cl rfl rfl ?_)|refine ⟨by omega,?_⟩|(refine zb ?_ ?_<;>intro hg<;>(try rw[hg])<;>try simp only[NM]at hg)|omega|simp -dsimp (disch:=try exact zo) only[go_sem,hl,ej,ek,k1,k2,k3,ZT,eP_in]|contradiction|rfl)
     all_goals exact AW.stop ⟨⟨j+1,by omega⟩,(Weak.t4 (by refine ⟨?_,?_,?_,?_⟩<;>simp -dsimp (disch:=try exact zo) only[go_sem,eP_in,ZC])),by dsimp only;omega⟩
    ·have k2:((j:Int)=(k:Int))=False:=eq_false (by omega)
     have hpos:=sg_pos.2 (hlj q1 q2)
     generalize sg (leftP p a b x)=s at *
     have k3:(s≤0)=False:=eq_false (by omega)
     clear hlj
     repeat' (first|refine zg ?_|(refine AW.cond rfl ?_ ?_<;>intro hc<;>first|simp only[NM]at hc|omega|skip)|refine zr ?_|(refine callV.flat _ yfn_218 cl rfl rfl ?_)|refine ⟨by omega,?_⟩|(refine zb ?_ ?_<;>intro hg<;>(try rw[hg])<;>try simp only[NM]at hg)|omega|simp -dsimp (disch:=try exact zo) only[go_sem,hl,ej,ek,k1,k2,k3,ZT,eP_in]|contradiction|rfl)
     all_goals exact AW.stop ⟨⟨j+1,by omega⟩,(Weak.t4 (by refine ⟨?_,?_,?_,?_⟩<;>simp -dsimp (disch:=try exact zo) only[go_sem,eP_in,ZC])),by dsimp only;omega⟩
  ·have hjl:j=vs.length:=by omega
   subst hjl
   repeat' (first|refine zg ?_|(refine AW.cond rfl ?_ ?_<;>intro hc<;>first|simp only[NM]at hc|omega|skip)|refine zr ?_|refine ⟨by omega,?_⟩|(refine zb ?_ ?_<;>intro hg<;>(try rw[hg])<;>try simp only[NM]at hg)|omega|simp -dsimp (disch:=try exact zo) only[go_sem,hl]|contradiction|rfl)
   all_goals exact AW.stop ⟨⟨i+1,by omega⟩,(Weak.t4 (by refine ⟨?_,?_,?_,?_⟩<;>simp -dsimp (disch:=try exact zo) only[go_sem,eP_in,ZC])),by dsimp only;omega⟩
 ·have hil:i=vs.length:=by omega
  subst hil
  repeat' (first|refine zg ?_|(refine AW.cond rfl ?_ ?_<;>intro hc<;>first|simp only[NM]at hc|omega|skip)|refine zr ?_|refine ⟨by omega,?_⟩|(refine zb ?_ ?_<;>intro hg<;>(try rw[hg])<;>try simp only[NM]at hg)|omega|simp -dsimp (disch:=try exact zo) only[go_sem,hl]|contradiction|rfl)
end Go.Proofs.Vx
namespace Go.Proofs.Vx
open Go Go.Sx Go.Proofs
attribute [local irreducible] fnT CallOK CallFr AW effV callV runP runO oneP oneO gcaseP hid
theorem yqq_Nx67:boT Tryz.prog 26=false∧Tryz.prog.eqGuardType Tryz.prog.depth 26=false∧lfT Tryz.prog 30 26=some [.b,.s,.b,.s,.b,.s,.b,.s]:=by and_intros<;>kernel_rfl
attribute [go_sem] yqq_Nx67
theorem yfn_117:fnT Tryz.prog 117=true:=by kernel_rfl
structure CanH (p:Pl):Prop where
 nrm:pnrm p.a p.b p.c p.d=p
 ne:¬ (p.a=0∧p.b=0∧p.c=0)
structure FineG (p:Pl) (vs:List Pt):Prop where
 ph:CanH p
 can:∀ v∈vs,CanP v
 three:3≤vs.length
 on:∀ v∈vs,sideP p v=0
 lefts:Lefts p vs
theorem c168c (p:Pl) (h:CanH p) (hb:BPl 100000 p):CallOK Tryz.prog 168 [.agg (eH p)] [] (.tup [.agg (eH p),.lit (.bool true)]) []:=by
 have:=c168 (Zn p.a) (Zm p.a) (Zn p.b) (Zm p.b) (Zn p.c) (Zm p.c) (Zn p.d) (Zm p.d) (Nat.lt_of_le_of_lt hb.out.a (by decide)) (Nat.lt_of_le_of_lt hb.out.b (by decide)) (Nat.lt_of_le_of_lt hb.out.c (by decide)) (Nat.lt_of_le_of_lt hb.out.d (by decide))
 simp only[iv_Z]at this
 rw[if_neg h.ne,h.nrm]at this
 exact this
set_option maxHeartbeats 16000000 in
theorem c117 (p:Pl) (vs:List Pt) (hn:vs.length≤268435456) (hp:BPl 100000 p) (hv:∀ v∈vs,BPt 100000 v) (H:FineG p vs):CallOK Tryz.prog 117 [.agg (eG p vs)] [] (.lit (.int .i64 0)) []:=by
 refine CallOK.flat Tryz.func117 rfl 55 rfl rfl rfl [.tmp 2] (congrArg Array.toList Tryz.results117) ?_
 simp only[startT,Nat.reduceAdd]
 have hml:maxLen=9223372036854775807:=rfl
 have hl:(vs.map eP).length=vs.length:=List.length_map _
 have cn:=c168c p H.ph hp
 have ct:=c176 p vs hn hp hv H.lefts
 have h3':=H.three
 have h3:((vs.length:Int)<3)=False:=eq_false (by omega)
 have hs:=Hid.mk (fun v hv'=>H.on v hv')
 have hcan:=Hid.mk (fun v hv'=>H.can v hv')
 replace hv:=Hid.mk hv
 clear H
 simp only[eG,eH,e4]at cn ct
 simp only[eG]
 have heq:True:=trivial
 repeat' (first|refine zg ?_|(refine AW.cond rfl ?_ ?_<;>intro hc<;>first|simp only[NM]at hc|omega|skip)|refine zr ?_|(refine callV.flat _ yfn_168 cn rfl rfl ?_)|refine ⟨by omega,?_⟩|(refine zb ?_ ?_<;>intro hg<;>(try rw[hg])<;>try simp only[NM]at hg)|omega|simp -dsimp (disch:=try exact zo) only[go_sem,hl,heq]|contradiction|rfl)
 refine AW.loop (fun z:{i:Nat // i≤vs.length}=>⟨[(26,.lit (.int .i64 z.1)),(24,.sl (vs.map eP)),(25,.lit (.int .i64 vs.length)),(1,.loc 8 0)],[(8,.blk [.lit (.bool (Zn p.a)),.lit (.string (Zm p.a)),.lit (.bool (Zn p.b)),.lit (.string (Zm p.b)),.lit (.bool (Zn p.c)),.lit (.string (Zm p.c)),.lit (.bool (Zn p.d)),.lit (.string (Zm p.d)),.sl (vs.map eP)])],60⟩) (fun z=>vs.length - z.1) ⟨0,Nat.zero_le _⟩ (Weak.t4 (by refine ⟨?_,?_,?_,?_⟩<;>simp -dsimp (disch:=try exact zo) only[go_sem,eP_in,ZC])) ?_
 rintro ⟨i,hi⟩
 dsimp only
 by_cases hlt:i<vs.length
 ·have ea:=eP_getD vs i hlt
  have hb:=hv.out _ (List.getElem_mem hlt)
  have hcx:=hcan.out _ (List.getElem_mem hlt)
  generalize vs[i]=x at *
  have cx:=c98c x hcx ⟨Nat.le_trans hb.out.a (by decide),Nat.le_trans hb.out.b (by decide),Nat.le_trans hb.out.c (by decide),Nat.le_trans hb.out.d (by decide)⟩
  simp only[eP,e4]at ea cx
  have heqx:True:=trivial
  repeat' (first|refine zg ?_|(refine AW.cond rfl ?_ ?_<;>intro hc<;>first|simp only[NM]at hc|omega|skip)|refine zr ?_|(refine callV.flat _ yfn_98 cx rfl rfl ?_)|refine ⟨by omega,?_⟩|(refine zb ?_ ?_<;>intro hg<;>(try rw[hg])<;>try simp only[NM]at hg)|omega|simp -dsimp (disch:=try exact zo) only[go_sem,hl,ea,heqx,ZT,eP_in]|contradiction|rfl)
  all_goals exact AW.stop ⟨⟨i+1,by omega⟩,(Weak.t4 (by refine ⟨?_,?_,?_,?_⟩<;>simp -dsimp (disch:=try exact zo) only[go_sem,eP_in,ZC])),by dsimp only;omega⟩
 ·have hil:i=vs.length:=by omega
  subst hil
  repeat' (first|refine zg ?_|(refine AW.cond rfl ?_ ?_<;>intro hc<;>first|simp only[NM]at hc|omega|skip)|refine zr ?_|refine ⟨by omega,?_⟩|(refine zb ?_ ?_<;>intro hg<;>(try rw[hg])<;>try simp only[NM]at hg)|omega|simp -dsimp (disch:=try exact zo) only[go_sem,hl,h3]|contradiction|rfl)
  refine AW.loop (fun z:{i:Nat // i≤vs.length}=>⟨[(42,.lit (.int .i64 z.1)),(40,.sl (vs.map eP)),(41,.lit (.int .i64 vs.length)),(1,.loc 8 0)],[(8,.blk [.lit (.bool (Zn p.a)),.lit (.string (Zm p.a)),.lit (.bool (Zn p.b)),.lit (.string (Zm p.b)),.lit (.bool (Zn p.c)),.lit (.string (Zm p.c)),.lit (.bool (Zn p.d)),.lit (.string (Zm p.d)),.sl (vs.map eP)])],100⟩) (fun z=>vs.length - z.1) ⟨0,Nat.zero_le _⟩ (Weak.t4 (by refine ⟨?_,?_,?_,?_⟩<;>simp -dsimp (disch:=try exact zo) only[go_sem,eP_in,ZC])) ?_
  rintro ⟨i,hi'⟩
  dsimp only
  by_cases hlt':i<vs.length
  ·have ea:=eP_getD vs i hlt'
   have hb:=hv.out _ (List.getElem_mem hlt')
   have hsx:=hs.out _ (List.getElem_mem hlt')
   generalize vs[i]=x at *
   have cs:=c34 p x (hp.mono (by decide)) (hb.mono (by decide))
   rw[hsx]at cs
   simp only[eP,e4]at ea
   simp only[eH,e4]at cs
   clear hsx
   repeat' (first|refine zg ?_|(refine AW.cond rfl ?_ ?_<;>intro hc<;>first|simp only[NM]at hc|omega|skip)|refine zr ?_|(refine callV.flat _ yfn_34 cs rfl rfl ?_)|refine ⟨by omega,?_⟩|(refine zb ?_ ?_<;>intro hg<;>(try rw[hg])<;>try simp only[NM]at hg)|omega|simp -dsimp (disch:=try exact zo) only[go_sem,hl,ea,ZT,eP_in]|contradiction|rfl)
   all_goals exact AW.stop ⟨⟨i+1,by omega⟩,(Weak.t4 (by refine ⟨?_,?_,?_,?_⟩<;>simp -dsimp (disch:=try exact zo) only[go_sem,eP_in,ZC])),by dsimp only;omega⟩
  ·have hil:i=vs.length:=by omega
   subst hil
   repeat' (first|refine zg ?_|(refine AW.cond rfl ?_ ?_<;>intro hc<;>first|simp only[NM]at hc|omega|skip)|refine zr ?_|(refine callV.plain _ yfn_176 ct (by simp -dsimp (disch:=try exact zo) only[go_sem,eP_in]) (.lit _) ?_)|refine ⟨by omega,?_⟩|(refine zb ?_ ?_<;>intro hg<;>(try rw[hg])<;>try simp only[NM]at hg)|omega|simp -dsimp (disch:=try exact zo) only[go_sem,hl]|contradiction|rfl)
end Go.Proofs.Vx
namespace Go.Proofs.Vx
open Go Go.Sx Go.Proofs
attribute [local irreducible] fnT CallOK CallFr AW effV callV runP runO oneP oneO gcaseP hid
theorem nd_inj {α:Type} {l:List α} (nd:l.Nodup) {i j:Nat} (hi:i<l.length) (hj:j<l.length) (e:l[i]=l[j]):i=j:=by
 have hp:=List.pairwise_iff_getElem.1 nd
 rcases Nat.lt_trichotomy i j with h|h|h
 ·exact absurd e (hp i j hi hj h)
 ·exact h
 ·exact absurd e.symm (hp j i hj hi h)
theorem left_tv (p:Pl) {a b x:Pt} (ha:0<a.w) (hb:0<b.w) (hx:0<x.w):0<leftP p a b x↔0<Geo.ori (tH p).n (tv a) (tv b) (tv x):=by
 have qa:=w_ne ha
 have qb:=w_ne hb
 have qx:=w_ne hx
 have e:((leftP p a b x:Int):Rat)=((a.w:Rat)*a.w*b.w*x.w)*Geo.ori (tH p).n (tv a) (tv b) (tv x):=by
  unfold leftP Geo.ori tH tv
  simp only[Geo.dot,Geo.cross,Geo.sub_x,Geo.sub_y,Geo.sub_z,Rat.intCast_add,Rat.intCast_mul,Rat.intCast_sub,Rat.div_def]
  have ka:=Rat.mul_inv_cancel _ qa
  have kb:=Rat.mul_inv_cancel _ qb
  have kx:=Rat.mul_inv_cancel _ qx
  have e0:((0:Int):Rat)=0:=rfl
  rw[e0]
  have hb1:∀ u v:Rat,u*(a.w:Rat) - v*(b.w:Rat)=(a.w:Rat)*b.w*(u*(b.w:Rat)⁻¹ - v*(a.w:Rat)⁻¹):=fun u v=>by grind
  have hx1:∀ u v:Rat,u*(a.w:Rat) - v*(x.w:Rat)=(a.w:Rat)*x.w*(u*(x.w:Rat)⁻¹ - v*(a.w:Rat)⁻¹):=fun u v=>by grind
  simp only[hb1,hx1]
  generalize ((b.x:Rat)*(b.w:Rat)⁻¹ - (a.x:Rat)*(a.w:Rat)⁻¹)=u1
  generalize ((b.y:Rat)*(b.w:Rat)⁻¹ - (a.y:Rat)*(a.w:Rat)⁻¹)=u2
  generalize ((b.z:Rat)*(b.w:Rat)⁻¹ - (a.z:Rat)*(a.w:Rat)⁻¹)=u3
  generalize ((x.x:Rat)*(x.w:Rat)⁻¹ - (a.x:Rat)*(a.w:Rat)⁻¹)=v1
  generalize ((x.y:Rat)*(x.w:Rat)⁻¹ - (a.y:Rat)*(a.w:Rat)⁻¹)=v2
  generalize ((x.z:Rat)*(x.w:Rat)⁻¹ - (a.z:Rat)*(a.w:Rat)⁻¹)=v3
  clear hb1 hx1 ka kb kx
  grind
 have pa:(0:Rat)<(a.w:Rat):=Rat.intCast_pos.2 ha
 have pb:(0:Rat)<(b.w:Rat):=Rat.intCast_pos.2 hb
 have px:(0:Rat)<(x.w:Rat):=Rat.intCast_pos.2 hx
 have pk:=Rat.mul_pos (Rat.mul_pos (Rat.mul_pos pa pa) pb) px
 rw[← Rat.intCast_pos,e]
 constructor
 ·intro h
  exact Geo.mul_pos_neg (by rwa [Rat.mul_comm]at h) pk
 ·intro h
  exact Rat.mul_pos pk h
theorem lefts_of {p:Pl} {vs:List Pt} (hw:∀ v∈vs,CanP v) (pv:Geo.PV (tH p).n (vs.map tv)):Lefts p vs:=by
 refine ⟨fun i hi k hk j hj ek hji hjk=>?_⟩
 have nd:vs.Nodup:=Geo.nodup_of_map pv.nd
 have hl:i<(Geo.edges vs).length:=by rw[Geo.edges_length];exact hi
 have he:(vs[i],vs[k])∈Geo.edges vs:=by
  have:=List.getElem_mem hl
  rw[edges_get vs i hi hl]at this
  subst ek
  exact this
 have he2:(tv vs[i],tv vs[k])∈Geo.edges (vs.map tv):=by
  rw[Geo.edges_map]
  exact List.mem_map.2 ⟨_,he,rfl⟩
 have c1:=hw _ (List.getElem_mem hi)
 have c2:=hw _ (List.getElem_mem hk)
 have c3:=hw _ (List.getElem_mem hj)
 have n1:vs[j]≠vs[i]:=fun e=>hji (nd_inj nd _ _ e)
 have n2:vs[j]≠vs[k]:=fun e=>hjk (nd_inj nd _ _ e)
 exact (left_tv p c1.w c2.w c3.w).2 (pv.lf _ he2 _ (List.mem_map_of_mem (List.getElem_mem hj)) (fun e=>n1 (tv_inj c3 c1 e)) (fun e=>n2 (tv_inj c3 c2 e)))
theorem fine_of {l:PCell} (h:CellOK l) (hH:∀ s∈l,CanH s.1) {s:Pl × List Pt} (hs:s∈l):FineG s.1 s.2:=by
 have pv:=h.cell.pv (sd s) (List.mem_map_of_mem hs)
 refine ⟨hH s hs,h.can s hs,?_,fun v hv=>?_,lefts_of (h.can s hs) pv⟩
 ·have:=pv.len
  simpa [sd]using this
 ·have:=h.cell.pl (sd s) (List.mem_map_of_mem hs) (tv v) (List.mem_map_of_mem hv)
  exact side_on.2 ((at_eq s.1 (h.w hs v hv)).1 this)
theorem es_nodup {l:PCell} (h:CellOK l):(esP l).Nodup:=by
 have:=h.cell.nd
 rw[E_sds]at this
 exact Geo.nodup_of_map this
theorem es_sw {l:PCell} (h:CellOK l) {e:Pt × Pt} (he:e∈esP l):Geo.sw e∈esP l:=by
 have hc:=h.cell.cl
 rw[E_sds]at hc
 have hcan:=es_w h.toCanC
 have h1:tv2 (Geo.sw e)∈((esP l).map tv2).map Geo.sw:=by
  rw[List.map_map]
  exact List.mem_map.2 ⟨e,he,rfl⟩
 obtain ⟨e',he',q⟩:=List.mem_map.1 (hc.mem_iff.2 h1)
 have q1:=tv_inj (hcan e' he').1 (hcan e he).2 (congrArg Prod.fst q)
 have q2:=tv_inj (hcan e' he').2 (hcan e he).1 (congrArg Prod.snd q)
 have:e'=Geo.sw e:=Prod.ext q1 q2
 rwa [← this]
theorem prp_same (p:Pl):Geo.Prp (tH p) (tH p):=⟨1,by decide,fun x=>by rw[Rat.one_mul]⟩
theorem planes_nodup {l:PCell} (h:CellOK l):(l.map (·.1)).Nodup:=by
 have:=h.cell.dist
 unfold sds at this
 rw[List.pairwise_map]at this
 refine List.Pairwise.map _ ?_ this
 rintro s t hst e
 exact hst (by show Geo.Prp (tH s.1) (tH t.1);rw[show s.1=t.1 from e];exact prp_same _)
theorem not_out {l:PCell} (h:CellOK l) {x:Pt} (hx:x∈vertsP l):outP l x=false:=by
 have hc:classP l x=0:=by rw[classP_eq];exact cls_vert h hx
 unfold classP at hc
 rw[if_neg h.ne]at hc
 by_cases ho:outP l x=true
 ·rw[if_pos ho]at hc;exact absurd hc (by decide)
 ·simpa using ho
end Go.Proofs.Vx
namespace Go.Sx
open Go.MapKept Go.ChangeMaps
set_option linter.unusedVariables false
set_option linter.unusedSimpArgs false
theorem turn_iter {c : Cx} {g : Gh} {ob : Nat → AV} (hg : GOk c g ob) {r l n : Nat} {seen seen' : List Nat} (hob : ob r = .ito l n seen) :
  ∃ g':Gh,g'.w=setBlock g.w (g.blk r) (.mapIter (some (g.blk l)) n seen'.toArray n)∧Ev g g'∧GOk c g' (upd ob [(r,.ito l n seen')])∧∀ l,g'.us l→g.us l:=by
 have hok:=hg.obj r
 rw[hob]at hok
 obtain ⟨hus,hul,hb⟩:=hok
 have hown:=hg.own r (g.blk r) (by rw[hob];rfl)
 have hlt:g.blk r<g.w.heap.size:=(Array.getElem?_eq_some_iff.1 hb).1
 let o:Obj:=.mapIter (some (g.blk l)) n seen'.toArray n
 have hold:∀ b,b≠g.blk r→(g.w.heap.setIfInBounds (g.blk r) o)[b]?=g.w.heap[b]?:=fun b hb=>by
  rw[Array.getElem?_setIfInBounds];simp[Ne.symm hb]
 have he:Ev g { g with w:=setBlock g.w (g.blk r) o } :=
  ⟨fun b hb=>⟨hb,hold b (fun e=>hown.2 (e▸hb))⟩,fun l hl=>⟨hl,rfl,Nat.le_refl _,fun _=>rfl⟩⟩
 refine ⟨_,rfl,he,?_,fun l hl=>hl⟩
 refine hg.turn he r (.ito l n seen') rfl Tp.rfl rfl (by simp[setBlock]) rfl (fun l hl=>⟨rfl,rfl,rfl⟩) (fun b hb hne=>?_) ?_ ?_
 ·refine hold b fun e=>hne ?_
  rw[hob,e];rfl
 ·refine ⟨hus,hul,?_⟩
  show (g.w.heap.setIfInBounds (g.blk r) _)[g.blk r]?=_
  rw[Array.getElem?_setIfInBounds];simp only[hlt,if_true];rfl
 ·intro b hb
  left
  rw[hob];exact hb
theorem AW.next {P : Program} {nt : Nat} {R : AS → Prop} {k : List Itm} {S : AS} {id it d0 d1 r l n : Nat} {seen : List Nat} {es : List (Value × Value)} {t0 t1 : TypeId} {p0 p1 : String} {a1 : Array Edge}
  (h0:d0<nt) (h1:d1<nt) (hit:look S.t it=.loc r 0) (hr:look S.o r=.ito l n seen) (hl:look S.o l=.mpo es) (hn:es.length=n)
  (hmore:∀ j,j<n→j∉seen→AW P nt R k { t:=(d1,.lit (.bool true))::(d0,.tup [.lit (.bool true),.any,.any])::S.t,o:=(r,.ito l n (seen++[j]))::S.o,nx:=S.nx+2 })
  (hover:(∀ j,j<n→j∈seen)→AW P nt R k { t:=(d1,.lit (.bool false))::(d0,.tup [.lit (.bool false)])::S.t,o:=S.o,nx:=S.nx+2 }) :
  AW P nt R (.code (.region id #[⟨some d0,.next (.tmp it) false,t0,p0,#[],none⟩,⟨some d1,.extract (.tmp d0) 0,t1,p1,a1,none⟩] false)::k) S:=by
 intro c a w hP hs
 subst hP
 refine wp_region ?_
 have hran:List.range (#[(⟨some d0,.next (.tmp it) false,t0,p0,#[],none⟩:Oper),⟨some d1,.extract (.tmp d0) 0,t1,p1,a1,none⟩]:Array Oper).size=[0,1]:=rfl
 rw[hran,wpOps_cons]
 obtain ⟨g,rfl,hg,ht,hsz,hu,hln,h8⟩:=hs
 have hitv:=ht.2 it
 rw[hit]at hitv
 have hob:=hg.obj r
 rw[hr]at hob
 obtain ⟨hur,hul,hbr⟩:=hob
 have hobl:=hg.obj l
 rw[hl]at hobl
 obtain ⟨_,arr,clock,hbl,hm⟩:=hobl
 have hcl:clock=n:=by rw[hm.clock,hn]
 subst hcl
 have hev:a.eval (.tmp it)=.pointer (some ⟨g.blk r,0,none⟩):=by
  show a.tmps.getD it undef=_
  generalize a.tmps.getD it undef=v at hitv
  cases hitv
  rfl
 have fin : ∀ (b : Bool) (vs : Array Value) (xs : List AV) (o' : List (Nat × AV)) (g' : Gh), Ev g g' → GOk c g' (upd (look S.o) o') → (∀ l, g'.us l → g.us l) → Rel g' (.tup (.lit (.bool b) :: xs)) (.tuple vs) →
   AW c.P nt R k { t:=(d1,.lit (.bool b))::(d0,.tup (.lit (.bool b)::xs))::S.t,o:=o'++S.o,nx:=S.nx+2 } →
   wpOps c.P #[⟨some d0,.next (.tmp it) false,t0,p0,#[],none⟩,⟨some d1,.extract (.tmp d0) 0,t1,p1,a1,none⟩] (liftQ c nt (Qof c.P nt R k)) [1] (a.put (some d0) (.tuple vs)) g'.w:=by
  intro b vs xs o' g' he hg' hus hrel hk
  rw[wpOps_cons]
  have hone:oneO c.P nt [⟨some d0,.next (.tmp it) false,t0,p0,#[],none⟩,⟨some d1,.extract (.tmp d0) 0,t1,p1,a1,none⟩] ⟨some d1,.extract (.tmp d0) 0,t1,p1,a1,none⟩ (S.nx+1) { t:=(d0,.tup (.lit (.bool b)::xs))::S.t,o:=o'++S.o,nx:=S.nx } fun S' e=>e=⟨.lit (.bool b),[],[]⟩:=by
   refine ⟨by simpa using h1,?_⟩
   simp[effV,rdO,look,extractV]
  obtain ⟨e,rfl,hd,hst⟩:=oneO_ok (ops:=#[⟨some d0,.next (.tmp it) false,t0,p0,#[],none⟩,⟨some d1,.extract (.tmp d0) 0,t1,p1,a1,none⟩]) hone
  have htk:TOk g' (look ((d0,.tup (.lit (.bool b)::xs))::S.t)) (a.put (some d0) (.tuple vs)):=by
   have:=(ht.mono he).put (dst:=some d0) (v:=.tuple vs) (x:=.tup (.lit (.bool b)::xs)) (by rintro d ⟨⟩;rw[hsz];exact h0) hrel
   have e:(fun t=>if some d0=some t then AV.tup (.lit (.bool b)::xs)else look S.t t)=look ((d0,.tup (.lit (.bool b)::xs))::S.t):=by
    funext t;simp[look]
   rw[e]at this
   exact this
  refine wpOp_step (o:=⟨some d1,.extract (.tmp d0) 0,t1,p1,a1,none⟩) (U:=fun l=>l<S.nx+1) rfl hst (fun _ _=>rfl) (fun _ _=>rfl) hd (by omega)
   ⟨g',rfl,by rw[look_append];exact hg',htk,by rw[put_size];exact hsz,fun l hl=>by have:=hu l (hus l hl);omega,hln.mono he⟩ fun a2 w2 hsim=>?_
  refine ⟨_,hk,?_⟩
  obtain ⟨g2,rfl,hg2,ht2,hsz2,hu2,hln2⟩:=hsim
  refine ⟨g2,rfl,?_,?_,hsz2,fun l hl=>?_,hln2,by simp only;omega⟩
  ·rw[look_append]at hg2 ⊢;exact hg2
  ·have e:(fun t=>if some d1=some t then AV.lit (.bool b)else look ((d0,.tup (.lit (.bool b)::xs))::S.t) t)=look ((d1,.lit (.bool b))::(d0,.tup (.lit (.bool b)::xs))::S.t):=by
    funext t;simp[look]
   rw[← e];exact ht2
  ·rcases hu2 l hl with h|h<;>simp only<;>omega
 have hw:Region.wanted ⟨some d0,.next (.tmp it) false,t0,p0,#[],none⟩ (yielded #[⟨some d0,.next (.tmp it) false,t0,p0,#[],none⟩,⟨some d1,.extract (.tmp d0) 0,t1,p1,a1,none⟩] a.tmps)=true:=by simp[Region.wanted]
 unfold wpOp
 simp only[show (#[(⟨some d0,.next (.tmp it) false,t0,p0,#[],none⟩:Oper),⟨some d1,.extract (.tmp d0) 0,t1,p1,a1,none⟩]:Array Oper)[0]?=some ⟨some d0,.next (.tmp it) false,t0,p0,#[],none⟩from rfl]
 rw[if_pos hw]
 left
 have hold:∀ x∈arr.toList,x.born<clock:=fun x hx=>by
  obtain ⟨i,hi,rfl⟩:=List.mem_iff_getElem.1 hx
  rw[hm.born i _ (List.getElem?_eq_getElem hi),hm.clk]
  simpa using hi
 rcases run_next_at (P:=c.P) g.w t0 (g.blk r) (g.blk l) clock clock seen.toArray arr clock hbr hbl hold (Nat.le_refl _)with ⟨hz,hrun⟩|⟨e,he,w1,hw1,hrun⟩
 ·unfold Oper.wp
  have:(execOp a.eval ⟨some d0,.next (.tmp it) false,t0,p0,#[],none⟩).run c.P g.w=.ok (.value (.tuple #[.bool false])) g.w:=by
   simp only[execOp,hev,Sem.run_bind,hrun,Result.andThen]
   rfl
  rw[this]
  refine fin false #[.bool false] [] [] g (Ev.refl g) hg (fun l hl=>hl) (.tup _ _ rfl fun i h1 h2=>?_) ?_
  ·match i,h1 with
   | 0,_=>exact .lit _
  ·refine hover fun j hj=>?_
   have hja:j<arr.size:=by rw[← hm.clk];exact hj
   have hbj:arr[j].born=j:=hm.born j arr[j] (by simp[hja])
   have hmem:¬ (arr[j]∈leftOf arr seen.toArray):=by
    intro h
    have:=Array.size_pos_of_mem h
    omega
   unfold leftOf at hmem
   rw[Array.mem_filter]at hmem
   simp only[hbj,Array.getElem_mem,true_and]at hmem
   simpa using hmem
 ·unfold Oper.wp
  have hmem:e∈arr.toList∧e.born∉seen:=by
   unfold leftOf at he
   have:=Array.mem_filter.1 (Array.mem_toList_iff.1 he)
   exact ⟨Array.mem_toList_iff.2 this.1,by simpa using this.2⟩
  obtain ⟨i,hi,hie⟩:=List.mem_iff_getElem.1 hmem.1
  have hib:e.born=i:=by rw[← hie];exact hm.born i _ (List.getElem?_eq_getElem hi)
  have hin:i<clock:=by rw[hm.clk];simpa using hi
  have hw1h:w1.heap=g.w.heap:=by rcases hw1 with rfl|rfl<;>rfl
  obtain ⟨he1,hg1⟩:Ev g { g with w:=w1 }∧GOk c { g with w:=w1 } (look S.o):=by
   rcases hw1 with rfl|rfl
   ·exact ⟨Ev.refl g,hg⟩
   ·exact hg.same g.w.drew rfl rfl ⟨rfl,Nat.le_succ _⟩ rfl
  obtain ⟨g',b1,b2,b3,b4⟩:=turn_iter hg1 (seen':=seen++[i]) hr
  have:(execOp a.eval ⟨some d0,.next (.tmp it) false,t0,p0,#[],none⟩).run c.P g.w=.ok (.value (.tuple #[.bool true,e.key,e.val])) g'.w:=by
   rw[b1]
   simp only[execOp,hev,Sem.run_bind,hrun,Result.andThen,hib]
   simp
  rw[this]
  refine fin true #[.bool true,e.key,e.val] [.any,.any] [(r,.ito l clock (seen++[i]))] g' (he1.trans b2) b3 (fun l hl=>b4 l hl) (.tup _ _ rfl fun q h1 h2=>?_) (hmore i hin (hib▸hmem.2))
  match q,h1 with
  | 0,_=>exact .lit _
  | 1,_=>exact .any _
  | 2,_=>exact .any _
end Go.Sx
namespace Go.Proofs.Vx
open Go Go.Sx Go.Proofs
attribute [local irreducible] fnT CallOK CallFr AW effV callV runP runO oneP oneO gcaseP hid
theorem yfn_55:fnT Tryz.prog 55=true:=by kernel_rfl
def plv (p:Pl):Value:=.agg #[.bool (Zn p.a),.string (Zm p.a),.bool (Zn p.b),.string (Zm p.b),.bool (Zn p.c),.string (Zm p.c),.bool (Zn p.d),.string (Zm p.d)]
def ev (e:Pt × Pt):Value:=.agg #[.bool (Zn e.1.x),.string (Zm e.1.x),.bool (Zn e.1.y),.string (Zm e.1.y),.bool (Zn e.1.z),.string (Zm e.1.z),.bool (Zn e.1.w),.string (Zm e.1.w),.bool (Zn e.2.x),.string (Zm e.2.x),.bool (Zn e.2.y),.string (Zm e.2.y),.bool (Zn e.2.z),.string (Zm e.2.z),.bool (Zn e.2.w),.string (Zm e.2.w)]
theorem plv_inj {p q:Pl} (h:plv p=plv q):p=q:=by
 unfold plv at h
 simp only[Value.agg.injEq,Array.mk.injEq,List.cons.injEq,Value.bool.injEq,Value.string.injEq,and_true]at h
 obtain ⟨h1,h2,h3,h4,h5,h6,h7,h8⟩:=h
 cases p;cases q
 simp only at *
 rw[eZ_inj h1 h2,eZ_inj h3 h4,eZ_inj h5 h6,eZ_inj h7 h8]
theorem ev_inj {e f:Pt × Pt} (h:ev e=ev f):e=f:=by
 unfold ev at h
 simp only[Value.agg.injEq,Array.mk.injEq,List.cons.injEq,Value.bool.injEq,Value.string.injEq,and_true]at h
 obtain ⟨h1,h2,h3,h4,h5,h6,h7,h8,k1,k2,k3,k4,k5,k6,k7,k8⟩:=h
 obtain ⟨a,b⟩:=e
 obtain ⟨c,d⟩:=f
 simp only at *
 rw[pt_ext (p:=a) (q:=c) ⟨eZ_inj h1 h2,eZ_inj h3 h4,eZ_inj h5 h6,eZ_inj h7 h8⟩,pt_ext (p:=b) (q:=d) ⟨eZ_inj k1 k2,eZ_inj k3 k4,eZ_inj k5 k6,eZ_inj k7 k8⟩]
def mHB (ps:List Pl):List (Value × Value):=ps.map fun p=>(plv p,.bool true)
def mEN (es:List (Pt × Pt)):List (Value × Value):=es.map fun e=>(ev e,.int .i64 1)
theorem mEN_len (es:List (Pt × Pt)):(mEN es).length=es.length:=List.length_map _
theorem mHB_key {ps:List Pl} {p:Pl} (h:p∉ps):plv p∉(mHB ps).map (·.1):=by
 unfold mHB
 rw[List.map_map]
 intro hm
 obtain ⟨q,hq,e⟩:=List.mem_map.1 hm
 exact h (plv_inj e▸hq)
theorem mEN_key {es:List (Pt × Pt)} {e:Pt × Pt} (h:e∉es):ev e∉(mEN es).map (·.1):=by
 unfold mEN
 rw[List.map_map]
 intro hm
 obtain ⟨q,hq,e⟩:=List.mem_map.1 hm
 exact h (ev_inj e▸hq)
theorem mfind_no {es:List (Value × Value)} {k:Value} (h:k∉es.map (·.1)):mfind es k=none:=by
 unfold mfind
 rw[List.find?_eq_none.2]
 ·rfl
 ·intro e he
  simp only[decide_eq_true_eq]
  rintro rfl
  exact h (List.mem_map_of_mem he)
theorem mput_no {es:List (Value × Value)} {k v:Value} (h:k∉es.map (·.1)):mput es k v=es++[(k,v)]:=by
 unfold mput
 rw[if_neg h]
theorem mset_end (es:List (Value × Value)) (n:Nat) (hn:es.length=n) (k v u:Value):mset (es++[(k,v)]) n u=es++[(k,u)]:=by
 unfold mset
 subst hn
 induction es with
 | nil=>rfl
 | cons a es ih=>rw[List.cons_append,List.length_cons,List.modify_succ_cons,ih];rfl
open Classical in
theorem mEN_find {es:List (Pt × Pt)} {e:Pt × Pt} (h:e∈es):mfind (mEN es) (ev e)=some (.int .i64 1):=by
 unfold mfind
 cases hq:(mEN es).find? fun x=>decide (x.1=ev e)with
 | none =>
  have:=List.find?_eq_none.1 hq (ev e,.int .i64 1) (List.mem_map.2 ⟨e,h,rfl⟩)
  simp at this
 | some x =>
  obtain ⟨f,_,rfl⟩:=List.mem_map.1 (List.mem_of_find?_eq_some hq)
  rfl
theorem kl26:WideMaps.KeyLaw Tryz.prog 26:=deep_law_gate (by kernel_rfl) (of_decide_eq_true (by kernel_rfl)) (of_decide_eq_true (by kernel_rfl)) (by kernel_rfl) (by kernel_rfl)
theorem kl138:WideMaps.KeyLaw Tryz.prog 138:=deep_law_gate (by kernel_rfl) (of_decide_eq_true (by kernel_rfl)) (of_decide_eq_true (by kernel_rfl)) (by kernel_rfl) (by kernel_rfl)
theorem yfl_26:fldT Tryz.prog 26=some [(24,0),(24,2),(24,4),(24,6)]:=by kernel_rfl
theorem yfl_138:fldT Tryz.prog 138=some [(51,0),(51,8)]:=by kernel_rfl
theorem yco_26:Tryz.prog.cellsOf 26=8:=by kernel_rfl
theorem yco_138:Tryz.prog.cellsOf 138=16:=by kernel_rfl
theorem key26 (p:Pl) (h:BPl 1073741824 p):(keyOf Tryz.prog 26 (plv p)).isSome=true:=by
 have hml:maxLen=9223372036854775807:=rfl
 have h1:=h.out.a
 have h2:=h.out.b
 have h3:=h.out.c
 have h4:=h.out.d
 refine keyOf_struct (L:=[.bool (Zn p.a),.string (Zm p.a).data.toList,.bool (Zn p.b),.string (Zm p.b).data.toList,.bool (Zn p.c),.string (Zm p.c).data.toList,.bool (Zn p.d),.string (Zm p.d).data.toList]) yfl_26 (by kernel_rfl) (by rw[yco_26];rfl) ?_
 rw[yts,keyLits_struct yfl_26 (by rw[yco_26];rfl)]
 simp only[List.mapM_cons,List.mapM_nil,yco_24,List.drop_zero,List.drop_succ_cons,List.take_succ_cons,List.take_zero,kl24 288 _ _ (show (Zm p.a).size≤maxLen by omega),kl24 288 _ _ (show (Zm p.b).size≤maxLen by omega),kl24 288 _ _ (show (Zm p.c).size≤maxLen by omega),kl24 288 _ _ (show (Zm p.d).size≤maxLen by omega)]
 rfl
theorem kl51k (d:Nat) (p:Pt) (h:BPt 1073741824 p):Tryz.prog.keyLits (d+3) 51 [.bool (Zn p.x),.string (Zm p.x),.bool (Zn p.y),.string (Zm p.y),.bool (Zn p.z),.string (Zm p.z),.bool (Zn p.w),.string (Zm p.w)]=some [.bool (Zn p.x),.string (Zm p.x).data.toList,.bool (Zn p.y),.string (Zm p.y).data.toList,.bool (Zn p.z),.string (Zm p.z).data.toList,.bool (Zn p.w),.string (Zm p.w).data.toList]:=by
 have hml:maxLen=9223372036854775807:=rfl
 have h1:=h.out.a
 have h2:=h.out.b
 have h3:=h.out.c
 have h4:=h.out.d
 rw[keyLits_struct yfl_51 (by rw[yco_51];rfl)]
 simp only[List.mapM_cons,List.mapM_nil,yco_24,List.drop_zero,List.drop_succ_cons,List.take_succ_cons,List.take_zero,kl24 d _ _ (show (Zm p.x).size≤maxLen by omega),kl24 d _ _ (show (Zm p.y).size≤maxLen by omega),kl24 d _ _ (show (Zm p.z).size≤maxLen by omega),kl24 d _ _ (show (Zm p.w).size≤maxLen by omega)]
 rfl
theorem key138 (e:Pt × Pt) (h:BPt 1073741824 e.1) (h':BPt 1073741824 e.2):(keyOf Tryz.prog 138 (ev e)).isSome=true:=by
 have k1:=kl51k 287 e.1 h
 have k2:=kl51k 287 e.2 h'
 refine keyOf_struct (L:=[.bool (Zn e.1.x),.string (Zm e.1.x).data.toList,.bool (Zn e.1.y),.string (Zm e.1.y).data.toList,.bool (Zn e.1.z),.string (Zm e.1.z).data.toList,.bool (Zn e.1.w),.string (Zm e.1.w).data.toList,.bool (Zn e.2.x),.string (Zm e.2.x).data.toList,.bool (Zn e.2.y),.string (Zm e.2.y).data.toList,.bool (Zn e.2.z),.string (Zm e.2.z).data.toList,.bool (Zn e.2.w),.string (Zm e.2.w).data.toList]) yfl_138 (by kernel_rfl) (by rw[yco_138];rfl) ?_
 rw[yts,keyLits_struct yfl_138 (by rw[yco_138];rfl)]
 simp only[List.mapM_cons,List.mapM_nil,yco_51,List.drop_zero,List.drop_succ_cons,List.take_succ_cons,List.take_zero,k1,k2]
 rfl
theorem keysHB {ps:List Pl} (hn:ps.Nodup) (h:∀ p∈ps,BPl 1073741824 p):KeysOk Tryz.prog 26 (mHB ps):=by
 refine ⟨fun e he=>?_,?_⟩
 ·obtain ⟨q,hq,rfl⟩:=List.mem_map.1 he
  exact key26 q (h q hq)
 ·unfold mHB
  rw[List.map_map]
  exact List.Pairwise.map _ (fun a b hab hp=>hab (plv_inj hp)) hn
theorem keysEN {es:List (Pt × Pt)} (hn:es.Nodup) (h:∀ e∈es,BPt 1073741824 e.1∧BPt 1073741824 e.2):KeysOk Tryz.prog 138 (mEN es):=by
 refine ⟨fun e he=>?_,?_⟩
 ·obtain ⟨q,hq,rfl⟩:=List.mem_map.1 he
  exact key138 q (h q hq).1 (h q hq).2
 ·unfold mEN
  rw[List.map_map]
  exact List.Pairwise.map _ (fun a b hab hp=>hab (ev_inj hp)) hn
end Go.Proofs.Vx
