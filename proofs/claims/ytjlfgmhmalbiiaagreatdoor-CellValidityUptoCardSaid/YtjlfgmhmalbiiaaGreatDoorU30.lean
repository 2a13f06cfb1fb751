import Derived.Test.YtjlfgmhmalbiiaaGreatDoorProg
import Derived.Test.YtjlfgmhmalbiiaaGreatDoorU10
import Derived.Test.YtjlfgmhmalbiiaaGreatDoorU11
import Derived.Test.YtjlfgmhmalbiiaaGreatDoorU29
set_option linter.all false
namespace Go.Proofs.Vx
open Go Go.Sx Go.Proofs
attribute [local irreducible] fnT CallOK CallFr AW effV callV runP runO oneP oneO gcaseP hid
theorem yqq_Nx47:boT Tryz.prog 41=false∧Tryz.prog.eqGuardType Tryz.prog.depth 41=false∧lfT Tryz.prog 30 41=some [.b,.s,.s]:=by and_intros<;>kernel_rfl
attribute [go_sem] yqq_Nx47
theorem yfn_19:fnT Tryz.prog 19=true:=by kernel_rfl
theorem flatQ (q:Rat):Flat (.agg (eQ q)):=.agg _ (by
 intro c hc
 simp only[eQ,List.mem_cons,List.not_mem_nil,or_false]at hc
 rcases hc with rfl|rfl|rfl<;>exact .lit _)
set_option maxRecDepth 20000 in
set_option maxHeartbeats 16000000 in
theorem c19  : CallOK Tryz.prog 19 [] [] (.lit (.bool true)) []:=by
 refine CallOK.flat Tryz.func19 rfl 60 rfl rfl rfl [.tmp 0] (congrArg Array.toList Tryz.results19) ?_
 simp only[startT,Nat.reduceAdd]
 have hml:maxLen=9223372036854775807:=rfl
 have hl6:(eS worldP).length=6:=rfl
 have hl0:(eS []).length=0:=rfl
 have hw:BdC worldP:=world_bd.mono (by decide) (by decide) (by decide)
 have s1:=c21x worldP floorP (.inr world_cell) hw (floor_bs.mono (by decide))
 have s2:=c21x worldP topP (.inr world_cell) hw (top_bs.mono (by decide))
 rw[fx3,fx4]at s2
 have e1:eH floorP=[.lit (.bool false),.lit (.string ⟨#[]⟩),.lit (.bool false),.lit (.string ⟨#[]⟩),.lit (.bool (Zn 1)),.lit (.string (Zm 1)),.lit (.bool false),.lit (.string ⟨#[]⟩)]:=by simp only[eH,e4,floorP,Zn_zero,Zm_zero]
 have e2:eH topP=[.lit (.bool false),.lit (.string ⟨#[]⟩),.lit (.bool false),.lit (.string ⟨#[]⟩),.lit (.bool (Zn 1)),.lit (.string (Zm 1)),.lit (.bool (Zn 1000)),.lit (.string (Zm 1000))]:=by simp only[eH,e4,topP,Zn_zero,Zm_zero]
 rw[e1]at s1
 rw[e2]at s2
 have hw2:BdV worldP:=world_bd.mono (by decide) (by decide) (by decide)
 have v1:=c24 worldP world_cell.toCanC hw2
 rw[fx1]at v1
 have v2:=c24 (splitP floorP worldP).1 (OkC.can (split_ok world_cell).1) ((split_bd (.inr world_cell) world_bd floor_bs (by decide)).1.mono (by decide) (by decide) (by decide))
 rw[fx2]at v2
 have g1:=c23 ((8000000000:Int):Rat) qs8
 rw[fx5]at g1
 generalize (splitP floorP worldP).1=A at *
 generalize (splitP floorP worldP).2=B at *
 have w0:=c57
 generalize worldP=W at *
 clear hw hw2 e1 e2
 repeat' (first|refine zg ?_|(refine AW.cond rfl ?_ ?_<;>intro hc<;>first|simp only[NM]at hc|omega|skip)|refine zr ?_|(refine callV.plain _ yfn_57 w0 (by simp) (inCell _) ?_)|(first|refine callV.flat _ yfn_67 (c67 1 (by decide)) rfl rfl ?_|refine callV.flat _ yfn_67 (c67 1000 (by decide)) rfl rfl ?_)|(first|refine callV.plain _ yfn_21 s1 (by simp -dsimp (disch:=try exact zo) only[go_sem,eS_in,eP_in]) (inPair _ _) ?_|refine callV.plain _ yfn_21 s2 (by simp -dsimp (disch:=try exact zo) only[go_sem,eS_in,eP_in]) (inPair _ _) ?_)|(first|refine callV.plain _ yfn_24 v1 (by simp -dsimp (disch:=try exact zo) only[go_sem,eS_in]) (flatQ _).in ?_|refine callV.plain _ yfn_24 v2 (by simp -dsimp (disch:=try exact zo) only[go_sem,eS_in]) (flatQ _).in ?_)|(refine callV.flat _ yfn_23 g1 rfl rfl ?_)|(first|refine callV.flat _ yfn_68 (c68 8000000000 (by decide)) rfl rfl ?_|refine callV.flat _ yfn_68 (c68 4000000000 (by decide)) rfl rfl ?_)|refine ⟨by omega,?_⟩|(refine zb ?_ ?_<;>intro hg<;>(try rw[hg])<;>try simp only[NM]at hg)|omega|simp -dsimp (disch:=try exact zo) only[go_sem,hl6,hl0,eS_in]|contradiction|rfl)
end Go.Proofs.Vx
namespace Go.Proofs.Vx
open Go Go.Sx Go.Proofs
attribute [local irreducible] fnT CallOK CallFr AW effV callV runP runO oneP oneO gcaseP hid
theorem yqq_Nx48:arT Tryz.prog 27=some (1,8,true)∧arT Tryz.prog 38=none∧slT Tryz.prog 27=none∧slT Tryz.prog 38=some (33,1)∧strT Tryz.prog 27=false∧strT Tryz.prog 38=false:=by and_intros<;>kernel_rfl
attribute [go_sem] yqq_Nx48
theorem yfn_3:fnT Tryz.prog 3=true:=by kernel_rfl
theorem sg_num (q:Rat):(0<sg q.num)=(0<q):=by
 rw[eq_iff_iff,sg_pos]
 rw[Rat.lt_iff]
 simp
theorem verts_bd {l:PCell} (h:BdC l):(vertsP l).length≤268435456:=Nat.le_trans (verts_len_le l) (Nat.le_trans (corners_len h.m h.n) (by decide))
end Go.Proofs.Vx
namespace Go.Proofs.Vx
open Go Go.Sx Go.Proofs
attribute [local irreducible] fnT CallOK CallFr AW effV callV runP runO oneP oneO gcaseP hid
theorem yfn_218:fnT Tryz.prog 218=true:=by kernel_rfl
theorem yfn_248:fnT Tryz.prog 248=true:=by kernel_rfl
theorem yfn_265:fnT Tryz.prog 265=true:=by kernel_rfl
def e3Z (x y z:Int):List AV:=[.lit (.bool (Zn x)),.lit (.string (Zm x)),.lit (.bool (Zn y)),.lit (.string (Zm y)),.lit (.bool (Zn z)),.lit (.string (Zm z))]
theorem zs_sub {a b:Int} {k:Nat} (ha:(Zm a).size≤k) (hb:(Zm b).size≤k):(Zm (a - b)).size≤k+1:=by
 have h:(Zm (-b)).size≤k:=Nat.le_trans (zs_le (by simp)) hb
 have:=zs_add a (-b) ha h
 rw[← Int.sub_eq_add_neg]at this
 exact this
theorem zs_det {a b c d:Int} {k:Nat} (ha:(Zm a).size≤k) (hb:(Zm b).size≤k) (hc:(Zm c).size≤k) (hd:(Zm d).size≤k):(Zm (a*b - c*d)).size≤2*k+1 :=
 Nat.le_trans (zs_sub (zs_mul a b ha hb) (zs_mul c d hc hd)) (by omega)
def leftP (p:Pl) (a b x:Pt):Int :=
 0+p.a*((b.y*a.w - a.y*b.w)*(x.z*a.w - a.z*x.w) - (b.z*a.w - a.z*b.w)*(x.y*a.w - a.y*x.w)) +
  p.b*((b.z*a.w - a.z*b.w)*(x.x*a.w - a.x*x.w) - (b.x*a.w - a.x*b.w)*(x.z*a.w - a.z*x.w)) +
  p.c*((b.x*a.w - a.x*b.w)*(x.y*a.w - a.y*x.w) - (b.y*a.w - a.y*b.w)*(x.x*a.w - a.x*x.w))
set_option maxHeartbeats 1600000 in
theorem c265 (s t:Int) (a b:Pt) (hs:(Zm s).size≤100000) (ht:(Zm t).size≤100000) (ha:(Zm a.w).size≤100000) (hb:(Zm b.w).size≤100000):CallOK Tryz.prog 265 [.agg (eZ s),.agg (eZ t),.fp (eP a),.fp (eP b)] [] (.agg (eZ (s*a.w - t*b.w))) []:=by
 refine CallOK.flat Tryz.func265 rfl 16 rfl rfl rfl [.cell 6 24] (congrArg Array.toList Tryz.results265) ?_
 simp only[startT,Nat.reduceAdd]
 have c1:=c83z s a.w (by omega) (by omega)
 have c2:=c83z t b.w (by omega) (by omega)
 have e1:=zs_mul s a.w hs ha
 have e2:=zs_mul t b.w ht hb
 have c3:=c166z (s*a.w) (t*b.w) (by omega) (by omega)
 generalize s*a.w=u at *
 generalize t*b.w=v at *
 simp only[eP,e4]
 repeat' (first|refine zg ?_|(refine AW.cond rfl ?_ ?_<;>intro hc<;>first|simp only[NM]at hc|omega|skip)|refine zr ?_|(first|refine callV.flat _ yfn_83 c1 rfl rfl ?_|refine callV.flat _ yfn_83 c2 rfl rfl ?_)|(refine callV.flat _ yfn_166 c3 rfl rfl ?_)|refine ⟨by omega,?_⟩|(refine zb ?_ ?_<;>intro hg<;>(try rw[hg])<;>try simp only[NM]at hg)|omega|simp -dsimp (disch:=try exact zo) only[go_sem]|contradiction|rfl)
set_option maxHeartbeats 1600000 in
theorem c248 (a b:Pt) (ha:BPt 100000 a) (hb:BPt 100000 b):CallOK Tryz.prog 248 [.agg (eP a),.agg (eP b)] [] (.agg (e3Z (b.x*a.w - a.x*b.w) (b.y*a.w - a.y*b.w) (b.z*a.w - a.z*b.w))) []:=by
 refine CallOK.flat Tryz.func248 rfl 26 rfl rfl rfl [.cell 4 121] (congrArg Array.toList Tryz.results248) ?_
 simp only[startT,Nat.reduceAdd]
 have kx:=c265 b.x a.x a b hb.out.a ha.out.a ha.out.d hb.out.d
 have ky:=c265 b.y a.y a b hb.out.b ha.out.b ha.out.d hb.out.d
 have kz:=c265 b.z a.z a b hb.out.c ha.out.c ha.out.d hb.out.d
 generalize b.x*a.w - a.x*b.w=u at *
 generalize b.y*a.w - a.y*b.w=v at *
 generalize b.z*a.w - a.z*b.w=w at *
 simp only[eP,e4,eZ]at kx ky kz
 simp only[eP,e4]
 repeat' (first|refine zg ?_|(refine AW.cond rfl ?_ ?_<;>intro hc<;>first|simp only[NM]at hc|omega|skip)|refine zr ?_|(first|refine callV.lend _ yfn_265 (by simp -dsimp (disch:=try exact zo) only[go_sem];exact kx) (by simp -dsimp (disch:=try exact zo) only[go_sem]) (.agg _ (by simp;exact ⟨.lit _,.lit _⟩)) ?_|refine callV.lend _ yfn_265 (by simp -dsimp (disch:=try exact zo) only[go_sem];exact ky) (by simp -dsimp (disch:=try exact zo) only[go_sem]) (.agg _ (by simp;exact ⟨.lit _,.lit _⟩)) ?_|refine callV.lend _ yfn_265 (by simp -dsimp (disch:=try exact zo) only[go_sem];exact kz) (by simp -dsimp (disch:=try exact zo) only[go_sem]) (.agg _ (by simp;exact ⟨.lit _,.lit _⟩)) ?_)|refine ⟨by omega,?_⟩|(refine zb ?_ ?_<;>intro hg<;>(try rw[hg])<;>try simp only[NM]at hg)|omega|simp -dsimp (disch:=try exact zo) only[go_sem]|contradiction|rfl)
set_option maxRecDepth 20000 in
set_option maxHeartbeats 16000000 in
theorem c218 (p:Pl) (a b x:Pt) (hp:BPl 1148576 p) (ha:BPt 100000 a) (hb:BPt 100000 b) (hx:BPt 100000 x):CallOK Tryz.prog 218 [.agg (eH p),.agg (eP a),.agg (eP b),.agg (eP x)] [] (.lit (.int .i64 (sg (leftP p a b x)))) []:=by
 refine CallOK.flat Tryz.func218 rfl 62 rfl rfl rfl [.tmp 8] (congrArg Array.toList Tryz.results218) ?_
 simp only[startT,Nat.reduceAdd]
 have hml:maxLen=9223372036854775807:=rfl
 have ku:=c248 a b ha hb
 have kv:=c248 a x ha hx
 have zu0:=zs_det hb.out.a ha.out.d ha.out.a hb.out.d
 have zu1:=zs_det hb.out.b ha.out.d ha.out.b hb.out.d
 have zu2:=zs_det hb.out.c ha.out.d ha.out.c hb.out.d
 have zv0:=zs_det hx.out.a ha.out.d ha.out.a hx.out.d
 have zv1:=zs_det hx.out.b ha.out.d ha.out.b hx.out.d
 have zv2:=zs_det hx.out.c ha.out.d ha.out.c hx.out.d
 have zn0:=hp.out.a
 have zn1:=hp.out.b
 have zn2:=hp.out.c
 unfold leftP
 generalize b.x*a.w - a.x*b.w=u0 at *
 generalize b.y*a.w - a.y*b.w=u1 at *
 generalize b.z*a.w - a.z*b.w=u2 at *
 generalize x.x*a.w - a.x*x.w=v0 at *
 generalize x.y*a.w - a.y*x.w=v1 at *
 generalize x.z*a.w - a.z*x.w=v2 at *
 simp only[eH,e4]
 generalize p.a=n0 at *
 generalize p.b=n1 at *
 generalize p.c=n2 at *
 have a0:=c83z u1 v2 (by omega) (by omega)
 have b0:=c83z u2 v1 (by omega) (by omega)
 have za0:=zs_mul u1 v2 zu1 zv2
 have zb0:=zs_mul u2 v1 zu2 zv1
 have d0:=c166z (u1*v2) (u2*v1) (by omega) (by omega)
 have zd0:=zs_sub za0 zb0
 generalize u1*v2=A0 at *
 generalize u2*v1=B0 at *
 generalize A0 - B0=D0 at *
 have m0:=c83z n0 D0 (by omega) (by omega)
 have zm0:=zs_mul n0 D0 zn0 zd0
 generalize n0*D0=M0 at *
 have a1:=c83z u2 v0 (by omega) (by omega)
 have b1:=c83z u0 v2 (by omega) (by omega)
 have za1:=zs_mul u2 v0 zu2 zv0
 have zb1:=zs_mul u0 v2 zu0 zv2
 have d1:=c166z (u2*v0) (u0*v2) (by omega) (by omega)
 have zd1:=zs_sub za1 zb1
 generalize u2*v0=A1 at *
 generalize u0*v2=B1 at *
 generalize A1 - B1=D1 at *
 have m1:=c83z n1 D1 (by omega) (by omega)
 have zm1:=zs_mul n1 D1 zn1 zd1
 generalize n1*D1=M1 at *
 have a2:=c83z u0 v1 (by omega) (by omega)
 have b2:=c83z u1 v0 (by omega) (by omega)
 have za2:=zs_mul u0 v1 zu0 zv1
 have zb2:=zs_mul u1 v0 zu1 zv0
 have d2:=c166z (u0*v1) (u1*v0) (by omega) (by omega)
 have zd2:=zs_sub za2 zb2
 generalize u0*v1=A2 at *
 generalize u1*v0=B2 at *
 generalize A2 - B2=D2 at *
 have m2:=c83z n2 D2 (by omega) (by omega)
 have zm2:=zs_mul n2 D2 zn2 zd2
 generalize n2*D2=M2 at *
 have t0:=c82z 0 M0 (by rw[Zm_zero];decide) (by omega)
 rw[Int.zero_add]at t0
 simp only[Int.zero_add]
 have t1:=c82z M0 M1 (by omega) (by omega)
 have zt1:=zs_add M0 M1 (k:=2000000) (by omega) (by omega)
 generalize M0+M1=T1 at *
 have t2:=c82z T1 M2 (by omega) (by omega)
 have zt2:=zs_add T1 M2 (k:=2000001) (by omega) (by omega)
 generalize T1+M2=T2 at *
 have sg2:=c76z T2 (by omega)
 simp only[e3Z]at ku kv
 have hz1:Zn 0=false:=by decide
 have hz2:Zm 0=⟨#[]⟩:=Zm_zero
 simp only[eZ,hz1,hz2]at t0
 repeat' (first|refine zg ?_|refine AW.unroll 6 ?_|(refine AW.cond rfl ?_ ?_<;>intro hc<;>first|simp only[NM]at hc|omega|skip)|refine zr ?_|(first|refine callV.flat _ yfn_83 a0 rfl rfl ?_|refine callV.flat _ yfn_83 b0 rfl rfl ?_|refine callV.flat _ yfn_83 m0 rfl rfl ?_|refine callV.flat _ yfn_83 a1 rfl rfl ?_|refine callV.flat _ yfn_83 b1 rfl rfl ?_|refine callV.flat _ yfn_83 m1 rfl rfl ?_|refine callV.flat _ yfn_83 a2 rfl rfl ?_|refine callV.flat _ yfn_83 b2 rfl rfl ?_|refine callV.flat _ yfn_83 m2 rfl rfl ?_)|(first|refine callV.flat _ yfn_166 d0 rfl rfl ?_|refine callV.flat _ yfn_166 d1 rfl rfl ?_|refine callV.flat _ yfn_166 d2 rfl rfl ?_)|(first|refine callV.flat _ yfn_82 t0 rfl rfl ?_|refine callV.flat _ yfn_82 t1 rfl rfl ?_|refine callV.flat _ yfn_82 t2 rfl rfl ?_)|(refine callV.flat _ yfn_76 sg2 rfl rfl ?_)|(first|refine callV.flat _ yfn_248 ku rfl rfl ?_|refine callV.flat _ yfn_248 kv rfl rfl ?_)|refine ⟨by omega,?_⟩|(refine zb ?_ ?_<;>intro hg<;>(try rw[hg])<;>try simp only[NM]at hg)|omega|simp -dsimp (disch:=try exact zo) only[go_sem,Int.reduceMod,Int.reduceTMod]|contradiction|rfl)
end Go.Proofs.Vx
namespace Go.Proofs.Vx
open Go Go.Sx Go.Proofs
attribute [local irreducible] fnT CallOK CallFr AW effV callV runP runO oneP oneO gcaseP hid
theorem yfn_176:fnT Tryz.prog 176=true:=by kernel_rfl
structure Lefts (p:Pl) (vs:List Pt):Prop where
 out:∀ i (hi:i<vs.length) k (hk:k<vs.length) j (hj:j<vs.length),k=(i+1) % vs.length→j≠i→j≠k→0<leftP p vs[i] vs[k] vs[j]
set_option maxHeartbeats 16000000 in
theorem c176 (p:Pl) (vs:List Pt) (hn:vs.length≤268435456) (hp:BPl 1148576 p) (hv:∀ v∈vs,BPt 100000 v) (H:Lefts p vs):CallOK Tryz.prog 176 [.agg (eG p vs)] [] (.lit (.bool true)) []:=by
 refine CallOK.flat Tryz.func176 rfl 50 rfl rfl rfl [.tmp 2] (congrArg Array.toList Tryz.results176) ?_
 simp only[startT,Nat.reduceAdd]
 have hml:maxLen=9223372036854775807:=rfl
 have hl:(vs.map eP).length=vs.length:=List.length_map _
 have c140w:=fun i hi=>c140 p vs i hi hn
 replace hv:=Hid.mk hv
 simp only[eG]at c140w
 simp only[eG]
 replace c140w:=Hid.mk c140w
 repeat' (first|refine zg ?_|(refine AW.cond rfl ?_ ?_<;>intro hc<;>first|simp only[NM]at hc|omega|skip)|refine zr ?_|refine ⟨by omega,?_⟩|(refine zb ?_ ?_<;>intro hg<;>(try rw[hg])<;>try simp only[NM]at hg)|omega|simp -dsimp (disch:=try exact zo) only[go_sem,hl]|contradiction|rfl)
 refine AW.loop (fun z:{i:Nat // i≤vs.length}=>⟨[(11,.lit (.int .i64 z.1)),(1,.loc 8 0),(9,.sl (vs.map eP)),(10,.lit (.int .i64 vs.length))],[(8,.blk [.lit (.bool (Zn p.a)),.lit (.string (Zm p.a)),.lit (.bool (Zn p.b)),.lit (.string (Zm p.b)),.lit (.bool (Zn p.c)),.lit (.string (Zm p.c)),.lit (.bool (Zn p.d)),.lit (.string (Zm p.d)),.sl (vs.map eP)])],60⟩) (fun z=>vs.length - z.1) ⟨0,Nat.zero_le _⟩ (Weak.t4 (by refine ⟨?_,?_,?_,?_⟩<;>simp -dsimp (disch:=try exact zo) only[go_sem,eP_in,ZC])) ?_
 rintro ⟨i,hi⟩
 dsimp only
 by_cases hlt:i<vs.length
 ·have ea:=eP_getD vs i hlt
  have c140v:=c140w.out i hlt
  obtain ⟨k,hk⟩:∃ k,k=(i+1) % vs.length:=⟨_,rfl⟩
  rw[← hk]at c140v
  have hkl:k<vs.length:=hk▸Nat.mod_lt _ (by omega)
  have ek:=eP_getD vs k hkl
  have hb:=hv.out _ (List.getElem_mem hlt)
  have hbk:=hv.out _ (List.getElem_mem hkl)
  have hL:=Hid.mk (fun j hj=>H.out i hlt k hkl j hj hk)
  clear hk
  generalize vs[k]=b at *
  generalize vs[i]=a at *
  simp only[eP,e4]at ea ek
  repeat' (first|refine zg ?_|(refine AW.cond rfl ?_ ?_<;>intro hc<;>first|simp only[NM]at hc|omega|skip)|refine zr ?_|(refine callV.plain _ yfn_140 c140v (by simp -dsimp (disch:=try exact zo) only[go_sem,eP_in]) (.lit _) ?_)|refine ⟨by omega,?_⟩|(refine zb ?_ ?_<;>intro hg<;>(try rw[hg])<;>try simp only[NM]at hg)|omega|simp -dsimp (disch:=try exact zo) only[go_sem,hl,ea,ZT,eP_in]|contradiction|rfl)
  refine AW.loop (fun z:{j:Nat // j≤vs.length}=>⟨[(22,.lit (.int .i64 z.1)),(21,.lit (.int .i64 vs.length)),(20,.sl (vs.map eP)),(3,.lit (.int .i64 i)),(4,.loc 64 0),(5,.lit (.int .i64 k)),(11,.lit (.int .i64 i)),(1,.loc 8 0),(9,.sl (vs.map eP)),(10,.lit (.int .i64 vs.length))],[(64,.blk (eP a)),(8,.blk [.lit (.bool (Zn p.a)),.lit (.string (Zm p.a)),.lit (.bool (Zn p.b)),.lit (.string (Zm p.b)),.lit (.bool (Zn p.c)),.lit (.string (Zm p.c)),.lit (.bool (Zn p.d)),.lit (.string (Zm p.d)),.sl (vs.map eP)])],100⟩) (fun z=>vs.length - z.1) ⟨0,Nat.zero_le _⟩ (Weak.t4 (by refine ⟨?_,?_,?_,?_⟩<;>simp -dsimp (disch:=try exact zo) only[go_sem,eP_in,ZC])) ?_
  rintro ⟨j,hj⟩
  dsimp only
  by_cases hjt:j<vs.length
  ·have ej:=eP_getD vs j hjt
   have hbj:=hv.out _ (List.getElem_mem hjt)
   have hlj:=hL.out j hjt
   generalize vs[j]=x at *
   simp only[eP,e4]at ej
   have cl:=c218 p a b x hp hb hbk hbj
   by_cases q1:j=i
   ·have k1:((j:Int)=(i:Int))=True:=eq_true (by omega)
    have k2:True:=trivial
    have k3:True:=trivial
    clear hlj cl
    repeat' (first|refine zg ?_|(refine AW.cond rfl ?_ ?_<;>intro hc<;>first|simp only[NM]at hc|omega|skip)|refine zr ?_|(refine callV.flat _ yfn_218 cl rfl rfl ?_)|refine ⟨by omega,?_⟩|(refine zb ?_ ?_<;>intro hg<;>(try rw[hg])<;>try simp only[NM]at hg)|omega|simp -dsimp (disch:=try exact zo) only[go_sem,hl,ej,ek,k1,k2,k3,ZT,eP_in]|contradiction|rfl)
    all_goals exact AW.stop ⟨⟨j+1,by omega⟩,(Weak.t4 (by refine ⟨?_,?_,?_,?_⟩<;>simp -dsimp (disch:=try exact zo) only[go_sem,eP_in,ZC])),by dsimp only;omega⟩
   ·have k1:((j:Int)=(i:Int))=False:=eq_false (by omega)
    by_cases q2:j=k
    ·have k2:((j:Int)=(k:Int))=True:=eq_true (by omega)
     have k3:True:=trivial
     clear hlj cl
     repeat' (first|refine zg ?_|(refine AW.cond rfl ?_ ?_<;>intro hc<;>first|simp only[NM]at hc|omega|skip)|refine zr ?_|(refine callV.flat _ yfn_218 cl rfl rfl ?_)|refine ⟨by omega,?_⟩|(refine zb ?_ ?_<;>intro hg<;>(try rw[hg])<;>try simp only[NM]at hg)|omega|simp -dsimp (disch:=try exact zo) only[go_sem,hl,ej,ek,k1,k2,k3,ZT,eP_in]|contradiction|rfl)
     all_goals exact AW.stop ⟨⟨j+1,by omega⟩,(Weak.t4 (by refine ⟨?_,?_,?_,?_⟩<;>simp -dsimp (disch:=try exact zo) only[go_sem,eP_in,ZC])),by dsimp only;omega⟩
    ·have k2:((j:Int)=(k:Int))=False:=eq_false (by omega)
     have hpos:=sg_pos.2 (hlj q1 q2)
     generalize sg (leftP p a b x)=s at *
     have k3:(s≤0)=False:=eq_false (by omega)
     clear hlj
     repeat' (first|refine zg ?_|(refine AW.cond rfl ?_ ?_<;>intro hc<;>first|simp only[NM]at hc|omega|skip)|refine zr ?_|(refine callV.flat _ yfn_218 cl rfl rfl ?_)|refine ⟨by omega,?_⟩|(refine zb ?_ ?_<;>intro hg<;>(try rw[hg])<;>try simp only[NM]at hg)|omega|simp -dsimp (disch:=try exact zo) only[go_sem,hl,ej,ek,k1,k2,k3,ZT,eP_in]|contradiction|rfl)
     all_goals exact AW.stop ⟨⟨j+1,by omega⟩,(Weak.t4 (by refine ⟨?_,?_,?_,?_⟩<;>simp -dsimp (disch:=try exact zo) only[go_sem,eP_in,ZC])),by dsimp only;omega⟩
  ·have hjl:j=vs.length:=by omega
   subst hjl
   repeat' (first|refine zg ?_|(refine AW.cond rfl ?_ ?_<;>intro hc<;>first|simp only[NM]at hc|omega|skip)|refine zr ?_|refine ⟨by omega,?_⟩|(refine zb ?_ ?_<;>intro hg<;>(try rw[hg])<;>try simp only[NM]at hg)|omega|simp -dsimp (disch:=try exact zo) only[go_sem,hl]|contradiction|rfl)
   all_goals exact AW.stop ⟨⟨i+1,by omega⟩,(Weak.t4 (by refine ⟨?_,?_,?_,?_⟩<;>simp -dsimp (disch:=try exact zo) only[go_sem,eP_in,ZC])),by dsimp only;omega⟩
 ·have hil:i=vs.length:=by omega
  subst hil
  repeat' (first|refine zg ?_|(refine AW.cond rfl ?_ ?_<;>intro hc<;>first|simp only[NM]at hc|omega|skip)|refine zr ?_|refine ⟨by omega,?_⟩|(refine zb ?_ ?_<;>intro hg<;>(try rw[hg])<;>try simp only[NM]at hg)|omega|simp -dsimp (disch:=try exact zo) only[go_sem,hl]|contradiction|rfl)
end Go.Proofs.Vx
namespace Go.Proofs.Vx
open Go Go.Sx Go.Proofs
attribute [local irreducible] fnT CallOK CallFr AW effV callV runP runO oneP oneO gcaseP hid
theorem yqq_Nx67:boT Tryz.prog 26=false∧Tryz.prog.eqGuardType Tryz.prog.depth 26=false∧lfT Tryz.prog 30 26=some [.b,.s,.b,.s,.b,.s,.b,.s]:=by and_intros<;>kernel_rfl
attribute [go_sem] yqq_Nx67
theorem yfn_117:fnT Tryz.prog 117=true:=by kernel_rfl
structure CanH (p:Pl):Prop where
 nrm:pnrm p.a p.b p.c p.d=p
 ne:¬ (p.a=0∧p.b=0∧p.c=0)
structure FineG (p:Pl) (vs:List Pt):Prop where
 ph:CanH p
 can:∀ v∈vs,CanP v
 three:3≤vs.length
 on:∀ v∈vs,sideP p v=0
 lefts:Lefts p vs
theorem c168c (p:Pl) (h:CanH p) (hb:BPl 1148576 p):CallOK Tryz.prog 168 [.agg (eH p)] [] (.tup [.agg (eH p),.lit (.bool true)]) []:=by
 have:=c168 (Zn p.a) (Zm p.a) (Zn p.b) (Zm p.b) (Zn p.c) (Zm p.c) (Zn p.d) (Zm p.d) (Nat.lt_of_le_of_lt hb.out.a (by decide)) (Nat.lt_of_le_of_lt hb.out.b (by decide)) (Nat.lt_of_le_of_lt hb.out.c (by decide)) (Nat.lt_of_le_of_lt hb.out.d (by decide))
 simp only[iv_Z]at this
 rw[if_neg h.ne,h.nrm]at this
 exact this
set_option maxHeartbeats 16000000 in
theorem c117 (p:Pl) (vs:List Pt) (hn:vs.length≤268435456) (hp:BPl 1148576 p) (hv:∀ v∈vs,BPt 100000 v) (H:FineG p vs):CallOK Tryz.prog 117 [.agg (eG p vs)] [] (.lit (.int .i64 0)) []:=by
 refine CallOK.flat Tryz.func117 rfl 55 rfl rfl rfl [.tmp 2] (congrArg Array.toList Tryz.results117) ?_
 simp only[startT,Nat.reduceAdd]
 have hml:maxLen=9223372036854775807:=rfl
 have hl:(vs.map eP).length=vs.length:=List.length_map _
 have cn:=c168c p H.ph hp
 have ct:=c176 p vs hn hp hv H.lefts
 have h3':=H.three
 have h3:((vs.length:Int)<3)=False:=eq_false (by omega)
 have hs:=Hid.mk (fun v hv'=>H.on v hv')
 have hcan:=Hid.mk (fun v hv'=>H.can v hv')
 replace hv:=Hid.mk hv
 clear H
 simp only[eG,eH,e4]at cn ct
 simp only[eG]
 have heq:True:=trivial
 repeat' (first|refine zg ?_|(refine AW.cond rfl ?_ ?_<;>intro hc<;>first|simp only[NM]at hc|omega|skip)|refine zr ?_|(refine callV.flat _ yfn_168 cn rfl rfl ?_)|refine ⟨by omega,?_⟩|(refine zb ?_ ?_<;>intro hg<;>(try rw[hg])<;>try simp only[NM]at hg)|omega|simp -dsimp (disch:=try exact zo) only[go_sem,hl,heq]|contradiction|rfl)
 refine AW.loop (fun z:{i:Nat // i≤vs.length}=>⟨[(26,.lit (.int .i64 z.1)),(24,.sl (vs.map eP)),(25,.lit (.int .i64 vs.length)),(1,.loc 8 0)],[(8,.blk [.lit (.bool (Zn p.a)),.lit (.string (Zm p.a)),.lit (.bool (Zn p.b)),.lit (.string (Zm p.b)),.lit (.bool (Zn p.c)),.lit (.string (Zm p.c)),.lit (.bool (Zn p.d)),.lit (.string (Zm p.d)),.sl (vs.map eP)])],60⟩) (fun z=>vs.length - z.1) ⟨0,Nat.zero_le _⟩ (Weak.t4 (by refine ⟨?_,?_,?_,?_⟩<;>simp -dsimp (disch:=try exact zo) only[go_sem,eP_in,ZC])) ?_
 rintro ⟨i,hi⟩
 dsimp only
 by_cases hlt:i<vs.length
 ·have ea:=eP_getD vs i hlt
  have hb:=hv.out _ (List.getElem_mem hlt)
  have hcx:=hcan.out _ (List.getElem_mem hlt)
  generalize vs[i]=x at *
  have cx:=c98c x hcx ⟨Nat.le_trans hb.out.a (by decide),Nat.le_trans hb.out.b (by decide),Nat.le_trans hb.out.c (by decide),Nat.le_trans hb.out.d (by decide)⟩
  simp only[eP,e4]at ea cx
  have heqx:True:=trivial
  repeat' (first|refine zg ?_|(refine AW.cond rfl ?_ ?_<;>intro hc<;>first|simp only[NM]at hc|omega|skip)|refine zr ?_|(refine callV.flat _ yfn_98 cx rfl rfl ?_)|refine ⟨by omega,?_⟩|(refine zb ?_ ?_<;>intro hg<;>(try rw[hg])<;>try simp only[NM]at hg)|omega|simp -dsimp (disch:=try exact zo) only[go_sem,hl,ea,heqx,ZT,eP_in]|contradiction|rfl)
  all_goals exact AW.stop ⟨⟨i+1,by omega⟩,(Weak.t4 (by refine ⟨?_,?_,?_,?_⟩<;>simp -dsimp (disch:=try exact zo) only[go_sem,eP_in,ZC])),by dsimp only;omega⟩
 ·have hil:i=vs.length:=by omega
  subst hil
  repeat' (first|refine zg ?_|(refine AW.cond rfl ?_ ?_<;>intro hc<;>first|simp only[NM]at hc|omega|skip)|refine zr ?_|refine ⟨by omega,?_⟩|(refine zb ?_ ?_<;>intro hg<;>(try rw[hg])<;>try simp only[NM]at hg)|omega|simp -dsimp (disch:=try exact zo) only[go_sem,hl,h3]|contradiction|rfl)
  refine AW.loop (fun z:{i:Nat // i≤vs.length}=>⟨[(42,.lit (.int .i64 z.1)),(40,.sl (vs.map eP)),(41,.lit (.int .i64 vs.length)),(1,.loc 8 0)],[(8,.blk [.lit (.bool (Zn p.a)),.lit (.string (Zm p.a)),.lit (.bool (Zn p.b)),.lit (.string (Zm p.b)),.lit (.bool (Zn p.c)),.lit (.string (Zm p.c)),.lit (.bool (Zn p.d)),.lit (.string (Zm p.d)),.sl (vs.map eP)])],100⟩) (fun z=>vs.length - z.1) ⟨0,Nat.zero_le _⟩ (Weak.t4 (by refine ⟨?_,?_,?_,?_⟩<;>simp -dsimp (disch:=try exact zo) only[go_sem,eP_in,ZC])) ?_
  rintro ⟨i,hi'⟩
  dsimp only
  by_cases hlt':i<vs.length
  ·have ea:=eP_getD vs i hlt'
   have hb:=hv.out _ (List.getElem_mem hlt')
   have hsx:=hs.out _ (List.getElem_mem hlt')
   generalize vs[i]=x at *
   have cs:=c34 p x (hp.mono (by decide)) (hb.mono (by decide))
   rw[hsx]at cs
   simp only[eP,e4]at ea
   simp only[eH,e4]at cs
   clear hsx
   repeat' (first|refine zg ?_|(refine AW.cond rfl ?_ ?_<;>intro hc<;>first|simp only[NM]at hc|omega|skip)|refine zr ?_|(refine callV.flat _ yfn_34 cs rfl rfl ?_)|refine ⟨by omega,?_⟩|(refine zb ?_ ?_<;>intro hg<;>(try rw[hg])<;>try simp only[NM]at hg)|omega|simp -dsimp (disch:=try exact zo) only[go_sem,hl,ea,ZT,eP_in]|contradiction|rfl)
   all_goals exact AW.stop ⟨⟨i+1,by omega⟩,(Weak.t4 (by refine ⟨?_,?_,?_,?_⟩<;>simp -dsimp (disch:=try exact zo) only[go_sem,eP_in,ZC])),by dsimp only;omega⟩
  ·have hil:i=vs.length:=by omega
   subst hil
   repeat' (first|refine zg ?_|(refine AW.cond rfl ?_ ?_<;>intro hc<;>first|simp only[NM]at hc|omega|skip)|refine zr ?_|(refine callV.plain _ yfn_176 ct (by simp -dsimp (disch:=try exact zo) only[go_sem,eP_in]) (.lit _) ?_)|refine ⟨by omega,?_⟩|(refine zb ?_ ?_<;>intro hg<;>(try rw[hg])<;>try simp only[NM]at hg)|omega|simp -dsimp (disch:=try exact zo) only[go_sem,hl]|contradiction|rfl)
end Go.Proofs.Vx
namespace Go.Proofs.Vx
open Go Go.Sx Go.Proofs
attribute [local irreducible] fnT CallOK CallFr AW effV callV runP runO oneP oneO gcaseP hid
def leftAt (p:Pl) (vs:List Pt) (i:Nat):Prop:=∀ (hi:i<vs.length) k (hk:k<vs.length) j (hj:j<vs.length),k=(i+1) % vs.length→j≠i→j≠k→0<leftP p vs[i] vs[k] vs[j]
theorem lefts_iff {p:Pl} {vs:List Pt}:Lefts p vs↔∀ i,i<vs.length→leftAt p vs i:=⟨fun h i _ hi k hk j hj e=>h.out i hi k hk j hj e,fun h=>⟨fun i hi k hk j hj e=>h i hi hi k hk j hj e⟩⟩
set_option maxHeartbeats 16000000 in
theorem c176r (p:Pl) (vs:List Pt) (r:Bool) (hr:r=true↔Lefts p vs) (hn:vs.length≤268435456) (hp:BPl 1148576 p) (hv:∀ v∈vs,BPt 100000 v):CallOK Tryz.prog 176 [.agg (eG p vs)] [] (.lit (.bool r)) []:=by
 refine CallOK.flat Tryz.func176 rfl 50 rfl rfl rfl [.tmp 2] (congrArg Array.toList Tryz.results176) ?_
 simp only[startT,Nat.reduceAdd]
 have hml:maxLen=9223372036854775807:=rfl
 have hl:(vs.map eP).length=vs.length:=List.length_map _
 have c140w:=fun i hi=>c140 p vs i hi hn
 replace hv:=Hid.mk hv
 rw[lefts_iff]at hr
 replace hr:=Hid.mk hr
 simp only[eG]at c140w
 simp only[eG]
 replace c140w:=Hid.mk c140w
 repeat' (first|refine zg ?_|(refine AW.cond rfl ?_ ?_<;>intro hc<;>first|simp only[NM]at hc|omega|skip)|refine zr ?_|refine ⟨by omega,?_⟩|(refine zb ?_ ?_<;>intro hg<;>(try rw[hg])<;>try simp only[NM]at hg)|omega|simp -dsimp (disch:=try exact zo) only[go_sem,hl]|contradiction|rfl)
 refine AW.loop (fun z:{i:Nat // i≤vs.length∧Hid (∀ i',i'<i→leftAt p vs i')}=>⟨[(11,.lit (.int .i64 z.1)),(1,.loc 8 0),(9,.sl (vs.map eP)),(10,.lit (.int .i64 vs.length))],[(8,.blk [.lit (.bool (Zn p.a)),.lit (.string (Zm p.a)),.lit (.bool (Zn p.b)),.lit (.string (Zm p.b)),.lit (.bool (Zn p.c)),.lit (.string (Zm p.c)),.lit (.bool (Zn p.d)),.lit (.string (Zm p.d)),.sl (vs.map eP)])],60⟩) (fun z=>vs.length - z.1) ⟨0,Nat.zero_le _,Hid.mk (fun i' h=>absurd h (Nat.not_lt_zero _))⟩ (Weak.t4 (by refine ⟨?_,?_,?_,?_⟩<;>simp -dsimp (disch:=try exact zo) only[go_sem,eP_in,ZC])) ?_
 rintro ⟨i,hi,hI⟩
 dsimp only
 by_cases hlt:i<vs.length
 ·have ea:=eP_getD vs i hlt
  have c140v:=c140w.out i hlt
  obtain ⟨k,hk⟩:∃ k,k=(i+1) % vs.length:=⟨_,rfl⟩
  rw[← hk]at c140v
  have hkl:k<vs.length:=hk▸Nat.mod_lt _ (by omega)
  have ek:=eP_getD vs k hkl
  have hb:=hv.out _ (List.getElem_mem hlt)
  have hbk:=hv.out _ (List.getElem_mem hkl)
  have hL:=Hid.mk (show (∀ j (hj:j<vs.length),j≠i→j≠k→0<leftP p vs[i] vs[k] vs[j])→∀ i',i'<i+1→leftAt p vs i' from fun h i' h'=>by
   by_cases e:i'=i
   ·subst e
    intro _ k' hk' j hj e' h1 h2
    have:k'=k:=e'.trans hk.symm
    subst this
    exact h j hj h1 h2
   ·exact hI.out i' (by omega))
  have hN:=Hid.mk (show ∀ j (hj:j<vs.length),j≠i→j≠k→¬ 0<leftP p vs[i] vs[k] vs[j]→r=false from fun j hj h1 h2 h3=>by
   cases hq:r
   ·rfl
   ·exact absurd (hr.out.1 hq i hlt hlt k hkl j hj hk h1 h2) h3)
  clear hk
  generalize vs[k]=b at *
  generalize vs[i]=a at *
  simp only[eP,e4]at ea ek
  repeat' (first|refine zg ?_|(refine AW.cond rfl ?_ ?_<;>intro hc<;>first|simp only[NM]at hc|omega|skip)|refine zr ?_|(refine callV.plain _ yfn_140 c140v (by simp -dsimp (disch:=try exact zo) only[go_sem,eP_in]) (.lit _) ?_)|refine ⟨by omega,?_⟩|(refine zb ?_ ?_<;>intro hg<;>(try rw[hg])<;>try simp only[NM]at hg)|omega|simp -dsimp (disch:=try exact zo) only[go_sem,hl,ea,ZT,eP_in]|contradiction|rfl)
  refine AW.loop (fun z:{j:Nat // j≤vs.length∧Hid (∀ j' (h:j'<vs.length),j'<j→j'≠i→j'≠k→0<leftP p a b vs[j'])}=>⟨[(22,.lit (.int .i64 z.1)),(21,.lit (.int .i64 vs.length)),(20,.sl (vs.map eP)),(3,.lit (.int .i64 i)),(4,.loc 64 0),(5,.lit (.int .i64 k)),(11,.lit (.int .i64 i)),(1,.loc 8 0),(9,.sl (vs.map eP)),(10,.lit (.int .i64 vs.length))],[(64,.blk (eP a)),(8,.blk [.lit (.bool (Zn p.a)),.lit (.string (Zm p.a)),.lit (.bool (Zn p.b)),.lit (.string (Zm p.b)),.lit (.bool (Zn p.c)),.lit (.string (Zm p.c)),.lit (.bool (Zn p.d)),.lit (.string (Zm p.d)),.sl (vs.map eP)])],100⟩) (fun z=>vs.length - z.1) ⟨0,Nat.zero_le _,Hid.mk (fun j' _ h=>absurd h (Nat.not_lt_zero _))⟩ (Weak.t4 (by refine ⟨?_,?_,?_,?_⟩<;>simp -dsimp (disch:=try exact zo) only[go_sem,eP_in,ZC])) ?_
  rintro ⟨j,hj,hJ⟩
  dsimp only
  by_cases hjt:j<vs.length
  ·have ej:=eP_getD vs j hjt
   have hbj:=hv.out _ (List.getElem_mem hjt)
   have hNj:=hN.out j hjt
   have hJ1:=Hid.mk (show (j≠i→j≠k→0<leftP p a b vs[j])→∀ j' (h:j'<vs.length),j'<j+1→j'≠i→j'≠k→0<leftP p a b vs[j']from fun h j' h1 h2 h3 h4=>by
    by_cases e:j'=j
    ·subst e;exact h h3 h4
    ·exact hJ.out j' h1 (by omega) h3 h4)
   generalize vs[j]=x at *
   simp only[eP,e4]at ej
   have cl:=c218 p a b x hp hb hbk hbj
   by_cases q1:j=i
   ·have k1:((j:Int)=(i:Int))=True:=eq_true (by omega)
    have k2:True:=trivial
    have k3:True:=trivial
    clear hNj cl
    repeat' (first|refine zg ?_|(refine AW.cond rfl ?_ ?_<;>intro hc<;>first|simp only[NM]at hc|omega|skip)|refine zr ?_|(refine callV.flat _ yfn_218 cl rfl rfl ?_)|refine ⟨by omega,?_⟩|(refine zb ?_ ?_<;>intro hg<;>(try rw[hg])<;>try simp only[NM]at hg)|omega|simp -dsimp (disch:=try exact zo) only[go_sem,hl,ej,ek,k1,k2,k3,ZT,eP_in]|contradiction|rfl)
    all_goals exact AW.stop ⟨⟨j+1,by omega,Hid.mk (hJ1.out fun h=>absurd q1 h)⟩,(Weak.t4 (by refine ⟨?_,?_,?_,?_⟩<;>simp -dsimp (disch:=try exact zo) only[go_sem,eP_in,ZC])),by dsimp only;omega⟩
   ·have k1:((j:Int)=(i:Int))=False:=eq_false (by omega)
    by_cases q2:j=k
    ·have k2:((j:Int)=(k:Int))=True:=eq_true (by omega)
     have k3:True:=trivial
     clear hNj cl
     repeat' (first|refine zg ?_|(refine AW.cond rfl ?_ ?_<;>intro hc<;>first|simp only[NM]at hc|omega|skip)|refine zr ?_|(refine callV.flat _ yfn_218 cl rfl rfl ?_)|refine ⟨by omega,?_⟩|(refine zb ?_ ?_<;>intro hg<;>(try rw[hg])<;>try simp only[NM]at hg)|omega|simp -dsimp (disch:=try exact zo) only[go_sem,hl,ej,ek,k1,k2,k3,ZT,eP_in]|contradiction|rfl)
     all_goals exact AW.stop ⟨⟨j+1,by omega,Hid.mk (hJ1.out fun _ h=>absurd q2 h)⟩,(Weak.t4 (by refine ⟨?_,?_,?_,?_⟩<;>simp -dsimp (disch:=try exact zo) only[go_sem,eP_in,ZC])),by dsimp only;omega⟩
    ·have k2:((j:Int)=(k:Int))=False:=eq_false (by omega)
     by_cases q3:0<leftP p a b x
     ·have hpos:=sg_pos.2 q3
      generalize sg (leftP p a b x)=s at *
      have k3:(s≤0)=False:=eq_false (by omega)
      clear hNj
      repeat' (first|refine zg ?_|(refine AW.cond rfl ?_ ?_<;>intro hc<;>first|simp only[NM]at hc|omega|skip)|refine zr ?_|(refine callV.flat _ yfn_218 cl rfl rfl ?_)|refine ⟨by omega,?_⟩|(refine zb ?_ ?_<;>intro hg<;>(try rw[hg])<;>try simp only[NM]at hg)|omega|simp -dsimp (disch:=try exact zo) only[go_sem,hl,ej,ek,k1,k2,k3,ZT,eP_in]|contradiction|rfl)
      all_goals exact AW.stop ⟨⟨j+1,by omega,Hid.mk (hJ1.out fun _ _=>q3)⟩,(Weak.t4 (by refine ⟨?_,?_,?_,?_⟩<;>simp -dsimp (disch:=try exact zo) only[go_sem,eP_in,ZC])),by dsimp only;omega⟩
     ·have hrf:=hNj q1 q2 q3
      have hneg:¬ 0<sg (leftP p a b x):=fun h=>q3 (sg_pos.1 h)
      generalize sg (leftP p a b x)=s at *
      have k3:(s≤0)=True:=eq_true (by omega)
      clear hNj hJ1 hN hL hr hI hJ
      rw[hrf]
      repeat' (first|refine zg ?_|(refine AW.cond rfl ?_ ?_<;>intro hc<;>first|simp only[NM]at hc|omega|skip)|refine zr ?_|(refine callV.flat _ yfn_218 cl rfl rfl ?_)|refine ⟨by omega,?_⟩|(refine zb ?_ ?_<;>intro hg<;>(try rw[hg])<;>try simp only[NM]at hg)|omega|simp -dsimp (disch:=try exact zo) only[go_sem,hl,ej,ek,k1,k2,k3,ZT,eP_in]|contradiction|rfl)
  ·have hjl:j=vs.length:=by omega
   subst hjl
   have hI':=hL.out fun j hj h1 h2=>hJ.out j hj hj h1 h2
   replace hI':=Hid.mk hI'
   repeat' (first|refine zg ?_|(refine AW.cond rfl ?_ ?_<;>intro hc<;>first|simp only[NM]at hc|omega|skip)|refine zr ?_|refine ⟨by omega,?_⟩|(refine zb ?_ ?_<;>intro hg<;>(try rw[hg])<;>try simp only[NM]at hg)|omega|simp -dsimp (disch:=try exact zo) only[go_sem,hl]|contradiction|rfl)
   all_goals exact AW.stop ⟨⟨i+1,by omega,hI'⟩,(Weak.t4 (by refine ⟨?_,?_,?_,?_⟩<;>simp -dsimp (disch:=try exact zo) only[go_sem,eP_in,ZC])),by dsimp only;omega⟩
 ·have hil:i=vs.length:=by omega
  subst hil
  have hrt:r=true:=hr.out.2 fun i h=>hI.out i h
  rw[hrt]
  clear hr hI
  repeat' (first|refine zg ?_|(refine AW.cond rfl ?_ ?_<;>intro hc<;>first|simp only[NM]at hc|omega|skip)|refine zr ?_|refine ⟨by omega,?_⟩|(refine zb ?_ ?_<;>intro hg<;>(try rw[hg])<;>try simp only[NM]at hg)|omega|simp -dsimp (disch:=try exact zo) only[go_sem,hl]|contradiction|rfl)
end Go.Proofs.Vx
