import Derived.Test.YtjlfgmhmalbiiaaGreatDoorProg
import Derived.Test.YtjlfgmhmalbiiaaGreatDoorU10
import Derived.Test.YtjlfgmhmalbiiaaGreatDoorU26
import Derived.Test.YtjlfgmhmalbiiaaGreatDoorU27
import Derived.Test.YtjlfgmhmalbiiaaGreatDoorU32
set_option linter.all false
namespace Go.Proofs.Vx
open Go Go.Sx Go.Proofs
attribute [local irreducible] fnT CallOK CallFr AW effV callV runP runO oneP oneO gcaseP hid
theorem ypl_103:plT Tryz.prog 103=some [(0,3),(3,3),(6,3)]:=by kernel_rfl
attribute [go_sem] ypl_103
theorem yfn_50:fnT Tryz.prog 50=true:=by kernel_rfl
theorem yfn_51:fnT Tryz.prog 51=true:=by kernel_rfl
theorem yfn_128:fnT Tryz.prog 128=true:=by kernel_rfl
theorem yfn_130:fnT Tryz.prog 130=true:=by kernel_rfl
theorem yfn_131:fnT Tryz.prog 131=true:=by kernel_rfl
theorem yfn_161:fnT Tryz.prog 161=true:=by kernel_rfl
theorem yfn_210:fnT Tryz.prog 210=true:=by kernel_rfl
theorem yfn_211:fnT Tryz.prog 211=true:=by kernel_rfl
theorem yfn_212:fnT Tryz.prog 212=true:=by kernel_rfl
theorem yfn_213:fnT Tryz.prog 213=true:=by kernel_rfl
theorem yfn_246:fnT Tryz.prog 246=true:=by kernel_rfl
theorem yfn_247:fnT Tryz.prog 247=true:=by kernel_rfl
theorem yfn_261:fnT Tryz.prog 261=true:=by kernel_rfl
theorem yfn_262:fnT Tryz.prog 262=true:=by kernel_rfl
theorem yfn_263:fnT Tryz.prog 263=true:=by kernel_rfl
theorem yfn_264:fnT Tryz.prog 264=true:=by kernel_rfl
theorem yfn_270:fnT Tryz.prog 270=true:=by kernel_rfl
theorem c29z (p:Pt) (h:BPt 268435456 p):CallOK Tryz.prog 29 [.agg (eP p)] [] (.agg (eP (nrm p.x p.y p.z p.w))) []:=by
 have:=c29 (Zn p.x) (Zn p.y) (Zn p.z) (Zn p.w) (Zm p.x) (Zm p.y) (Zm p.z) (Zm p.w) h.out.a h.out.b h.out.c h.out.d
 rwa [iv_Z,iv_Z,iv_Z,iv_Z]at this
theorem c29c (p:Pt) (hc:CanP p) (h:BPt 268435456 p):CallOK Tryz.prog 29 [.agg (eP p)] [] (.agg (eP p)) []:=by
 have:=c29z p h
 rwa [nrm_can hc]at this
theorem c44z (x y z w:Int) (h:Bs 268435456 x y z w) (h0:¬ (x=0∧y=0∧z=0)):CallOK Tryz.prog 44 [.agg (e4 x y z w)] [] (.tup [.agg (eH (pnrm x y z w)),.lit (.bool true)]) []:=by
 have:=c44a (Zn x) (Zn y) (Zn z) (Zn w) (Zm x) (Zm y) (Zm z) (Zm w) h.a h.b h.c h.d (by rw[iv_Z,iv_Z,iv_Z];exact h0)
 rwa [iv_Z,iv_Z,iv_Z,iv_Z]at this
theorem qs_int {z:Int} {k:Nat} (h:(Zm z).size≤k) (hk:1≤k):Qs k (z:Rat):=⟨h,by show (nb 1).size≤_;rw[nb_one];exact hk⟩
theorem c87o:CallOK Tryz.prog 87 [.lit (.int .i64 1)] [] (.agg (eZ 1)) []:=c87 1 (by decide) (by decide)
theorem dot_qs {a b:Geo.V} {k l:Nat} (ha:QV k a) (hb:QV l b):Qs (3*(k+l)+2) (Geo.dot a b):=(((ha.x.mul hb.x).add (ha.y.mul hb.y)).add (ha.z.mul hb.z)).mono (by omega)
theorem smul_qs {a:Geo.V} {t:Rat} {k l:Nat} (ha:QV k a) (ht:Qs l t):QV (k+l) (t*a):=⟨by rw[show (t*a:Geo.V).x=a.x*t from Rat.mul_comm _ _];exact ha.x.mul ht,by rw[show (t*a:Geo.V).y=a.y*t from Rat.mul_comm _ _];exact ha.y.mul ht,by rw[show (t*a:Geo.V).z=a.z*t from Rat.mul_comm _ _];exact ha.z.mul ht⟩
theorem numden (a:Rat):(a.num:Rat) / (a.den:Rat)=a:=by
 have:=Rat.divInt_eq_div a.num (a.den:Int)
 rw[Rat.num_divInt_den,Rat.intCast_natCast]at this
 exact this.symm
theorem mkR (a b c:Rat):nrm (a.num*((b.den:Int)*(c.den:Int))) (b.num*((a.den:Int)*(c.den:Int))) (c.num*((a.den:Int)*(b.den:Int))) ((a.den:Int)*(b.den:Int)*(c.den:Int))=mkP a b c:=by
 have ha:=den_ne a
 have hb:=den_ne b
 have hc:=den_ne c
 refine tv_inj (nrm_isCan _ _ _ _) (mkP_can _ _ _) ?_
 rw[tv_mkP,tv_nrm (Int.mul_ne_zero (Int.mul_ne_zero ha hb) hc)]
 have qa:(a.den:Rat)≠0:=by have:=a.den_nz;exact_mod_cast this
 have qb:(b.den:Rat)≠0:=by have:=b.den_nz;exact_mod_cast this
 have qc:(c.den:Rat)≠0:=by have:=c.den_nz;exact_mod_cast this
 have ea:=numden a
 have eb:=numden b
 have ec:=numden c
 generalize (a.num:Int)=an at *
 generalize (b.num:Int)=bn at *
 generalize (c.num:Int)=cn at *
 apply Geo.V.ext<;>simp only[Rat.intCast_mul,Rat.intCast_natCast]
 ·conv=>rhs;rw[← ea]
  grind
 ·conv=>rhs;rw[← eb]
  grind
 ·conv=>rhs;rw[← ec]
  grind
set_option maxHeartbeats 8000000 in
theorem c128 (p:Pt) (hc:CanP p) (hb:BPt 268435456 p):CallOK Tryz.prog 128 [.agg (eP p)] [] (.agg (eV (tv p).x (tv p).y (tv p).z)) []:=by
 refine CallOK.flat Tryz.func128 rfl 40 rfl rfl rfl [.cell 2 103] (congrArg Array.toList Tryz.results128) ?_
 simp only[startT,Nat.reduceAdd]
 have c29v:=c29c p hc hb
 have hw:=hc.w
 have hx:=c134 p.x p.w hb.out.a hb.out.d (by omega)
 have hy:=c134 p.y p.w hb.out.b hb.out.d (by omega)
 have hz:=c134 p.z p.w hb.out.c hb.out.d (by omega)
 rw[(tv_div p).1]at hx
 rw[(tv_div p).2.1]at hy
 rw[(tv_div p).2.2]at hz
 clear hc hb hw
 generalize tv p=t at *
 repeat' (first|refine zg ?_|(refine AW.cond rfl ?_ ?_<;>intro hc<;>try simp only[NM]at hc)|refine zr ?_|(refine callV.flat _ yfn_29 c29v rfl rfl ?_)|(first|refine callV.flat _ yfn_134 hx rfl rfl ?_|refine callV.flat _ yfn_134 hy rfl rfl ?_|refine callV.flat _ yfn_134 hz rfl rfl ?_)|refine ⟨by omega,?_⟩|(refine zb ?_ ?_<;>intro hg<;>(try rw[hg])<;>try simp only[NM]at hg)|omega|simp -dsimp (disch:=try exact zo) only[go_sem]|contradiction|rfl)
set_option maxHeartbeats 8000000 in
theorem c130 (a b c:Rat) (ha:Qs 67108864 a) (hb:Qs 67108864 b) (hc:Qs 67108864 c):CallOK Tryz.prog 130 [.agg (eV a b c)] [] (.agg (eP (mkP a b c))) []:=by
 refine CallOK.flat Tryz.func130 rfl 49 rfl rfl rfl [.cell 2 51] (congrArg Array.toList Tryz.results130) ?_
 simp only[startT,Nat.reduceAdd]
 have s1:=ha.num
 have s2:=ha.den'
 have s3:=hb.num
 have s4:=hb.den'
 have s5:=hc.num
 have s6:=hc.den'
 have t1:=zs_mul _ _ s4 s6
 have t2:=zs_mul _ _ s2 s6
 have t3:=zs_mul _ _ s2 s4
 have u1:=zs_mul _ _ s1 t1
 have u2:=zs_mul _ _ s3 t2
 have u3:=zs_mul _ _ s5 t3
 have u4:=zs_mul _ _ t3 s6
 have c29v:=c29z ⟨a.num*((b.den:Int)*(c.den:Int)),b.num*((a.den:Int)*(c.den:Int)),c.num*((a.den:Int)*(b.den:Int)),(a.den:Int)*(b.den:Int)*(c.den:Int)⟩ ⟨⟨by dsimp only;omega,by dsimp only;omega,by dsimp only;omega,by dsimp only;omega⟩⟩
 dsimp only at c29v
 rw[mkR]at c29v
 repeat' (first|refine zg ?_|(refine AW.cond rfl ?_ ?_<;>intro hc<;>try simp only[NM]at hc)|refine zr ?_|(first|refine callV.flat _ yfn_181 (c181 a ha) rfl rfl ?_|refine callV.flat _ yfn_181 (c181 b hb) rfl rfl ?_|refine callV.flat _ yfn_181 (c181 c hc) rfl rfl ?_)|(first|refine callV.flat _ yfn_112 (c112 ((b.den:Int)) ((c.den:Int)) (by omega) (by omega)) rfl rfl ?_|refine callV.flat _ yfn_112 (c112 ((a.den:Int)) ((c.den:Int)) (by omega) (by omega)) rfl rfl ?_|refine callV.flat _ yfn_112 (c112 ((a.den:Int)) ((b.den:Int)) (by omega) (by omega)) rfl rfl ?_|refine callV.flat _ yfn_112 (c112 (a.num) ((b.den:Int)*(c.den:Int)) (by omega) (by omega)) rfl rfl ?_|refine callV.flat _ yfn_112 (c112 (b.num) ((a.den:Int)*(c.den:Int)) (by omega) (by omega)) rfl rfl ?_|refine callV.flat _ yfn_112 (c112 (c.num) ((a.den:Int)*(b.den:Int)) (by omega) (by omega)) rfl rfl ?_|refine callV.flat _ yfn_112 (c112 ((a.den:Int)*(b.den:Int)) ((c.den:Int)) (by omega) (by omega)) rfl rfl ?_)|(refine callV.flat _ yfn_29 c29v rfl rfl ?_)|refine ⟨by omega,?_⟩|(refine zb ?_ ?_<;>intro hg<;>(try rw[hg])<;>try simp only[NM]at hg)|omega|simp -dsimp (disch:=try exact zo) only[go_sem]|contradiction|rfl)
set_option maxHeartbeats 3200000 in
theorem c270 (z:Int) (h:(Zm z).size≤268435456):CallOK Tryz.prog 270 [.agg (eZ z)] [] (.agg (eQ (z:Rat))) []:=by
 refine CallOK.flat Tryz.func270 rfl 12 rfl rfl rfl [.cell 2 41] (congrArg Array.toList Tryz.results270) ?_
 simp only[startT,Nat.reduceAdd]
 have s2:(Zm 1).size≤8:=by rw[Zm_size];decide
 repeat' (first|refine zg ?_|(refine AW.cond rfl ?_ ?_<;>intro hc<;>try simp only[NM]at hc)|refine zr ?_|(refine callV.flat _ yfn_87 c87o rfl rfl ?_)|(refine callV.flat (.tup [.agg (eQ (z:Rat)),.lit (.bool true)]) yfn_134 (by have:=c134 z 1 (by omega) (by omega) (by decide);rw[q_int z]at this;exact this) rfl rfl ?_)|refine ⟨by omega,?_⟩|(refine zb ?_ ?_<;>intro hg<;>(try rw[hg])<;>try simp only[NM]at hg)|omega|simp -dsimp (disch:=try exact zo) only[go_sem]|contradiction|rfl)
set_option maxHeartbeats 3200000 in
theorem c211 (u v:Geo.V) (hu:QV 33554432 u) (hv:QV 33554432 v):CallOK Tryz.prog 211 [.agg (eV u.x u.y u.z),.agg (eV v.x v.y v.z)] [] (.agg (eV (u.x - v.x) (u.y - v.y) (u.z - v.z))) []:=by
 refine CallOK.flat Tryz.func211 rfl 21 rfl rfl rfl [.cell 4 103] (congrArg Array.toList Tryz.results211) ?_
 simp only[startT,Nat.reduceAdd]
 obtain ⟨u1,u2,u3⟩:=hu.mono (show 33554432≤67108864 by decide)
 obtain ⟨v1,v2,v3⟩:=hv.mono (show 33554432≤67108864 by decide)
 clear hu hv
 repeat' (first|refine zg ?_|(refine AW.cond rfl ?_ ?_<;>intro hc<;>try simp only[NM]at hc)|refine zr ?_|(refine callV.flat _ yfn_183 (c183 _ (by assumption) _ (by assumption)) rfl rfl ?_)|refine ⟨by omega,?_⟩|(refine zb ?_ ?_<;>intro hg<;>(try rw[hg])<;>try simp only[NM]at hg)|omega|simp -dsimp (disch:=try exact zo) only[go_sem]|contradiction|rfl)
set_option maxHeartbeats 3200000 in
theorem c263 (u v:Geo.V) (hu:QV 33554432 u) (hv:QV 33554432 v):CallOK Tryz.prog 263 [.agg (eV u.x u.y u.z),.agg (eV v.x v.y v.z)] [] (.agg (eV (u.x+v.x) (u.y+v.y) (u.z+v.z))) []:=by
 refine CallOK.flat Tryz.func263 rfl 21 rfl rfl rfl [.cell 4 103] (congrArg Array.toList Tryz.results263) ?_
 simp only[startT,Nat.reduceAdd]
 obtain ⟨u1,u2,u3⟩:=hu.mono (show 33554432≤67108864 by decide)
 obtain ⟨v1,v2,v3⟩:=hv.mono (show 33554432≤67108864 by decide)
 clear hu hv
 repeat' (first|refine zg ?_|(refine AW.cond rfl ?_ ?_<;>intro hc<;>try simp only[NM]at hc)|refine zr ?_|(refine callV.flat _ yfn_64 (c64 _ (by assumption) _ (by assumption)) rfl rfl ?_)|refine ⟨by omega,?_⟩|(refine zb ?_ ?_<;>intro hg<;>(try rw[hg])<;>try simp only[NM]at hg)|omega|simp -dsimp (disch:=try exact zo) only[go_sem]|contradiction|rfl)
set_option maxHeartbeats 3200000 in
theorem c264 (u:Geo.V) (t:Rat) (hu:QV 33554432 u) (ht:Qs 33554432 t):CallOK Tryz.prog 264 [.agg (eV u.x u.y u.z),.agg (eQ t)] [] (.agg (eV (u.x*t) (u.y*t) (u.z*t))) []:=by
 refine CallOK.flat Tryz.func264 rfl 18 rfl rfl rfl [.cell 4 103] (congrArg Array.toList Tryz.results264) ?_
 simp only[startT,Nat.reduceAdd]
 obtain ⟨u1,u2,u3⟩:=hu.mono (show 33554432≤67108864 by decide)
 have h2:=ht.mono (show 33554432≤67108864 by decide)
 clear hu ht
 repeat' (first|refine zg ?_|(refine AW.cond rfl ?_ ?_<;>intro hc<;>try simp only[NM]at hc)|refine zr ?_|(refine callV.flat _ yfn_182 (c182 _ (by assumption) _ (by assumption)) rfl rfl ?_)|refine ⟨by omega,?_⟩|(refine zb ?_ ?_<;>intro hg<;>(try rw[hg])<;>try simp only[NM]at hg)|omega|simp -dsimp (disch:=try exact zo) only[go_sem]|contradiction|rfl)
set_option maxHeartbeats 8000000 in
theorem c262 (p q:Pt) (hp:CanP p) (hq:CanP q) (bp:BPt 33554432 p) (bq:BPt 33554432 q):CallOK Tryz.prog 262 [.agg (eP p),.agg (eP q)] [] (.agg (eV (tv p - tv q).x (tv p - tv q).y (tv p - tv q).z)) []:=by
 refine CallOK.flat Tryz.func262 rfl 27 rfl rfl rfl [.cell 4 103] (congrArg Array.toList Tryz.results262) ?_
 simp only[startT,Nat.reduceAdd]
 have cp:=c128 p hp (bp.mono (by decide))
 have cq:=c128 q hq (bq.mono (by decide))
 obtain ⟨u1,u2,u3⟩:=(tv_qs hp bp).mono (show 33554432≤67108864 by decide)
 obtain ⟨v1,v2,v3⟩:=(tv_qs hq bq).mono (show 33554432≤67108864 by decide)
 simp only[Geo.sub_x,Geo.sub_y,Geo.sub_z]
 clear hp hq bp bq
 generalize tv p=s at *
 generalize tv q=t at *
 repeat' (first|refine zg ?_|(refine AW.cond rfl ?_ ?_<;>intro hc<;>try simp only[NM]at hc)|refine zr ?_|(first|refine callV.flat _ yfn_128 cp rfl rfl ?_|refine callV.flat _ yfn_128 cq rfl rfl ?_)|(refine callV.flat _ yfn_183 (c183 _ (by assumption) _ (by assumption)) rfl rfl ?_)|refine ⟨by omega,?_⟩|(refine zb ?_ ?_<;>intro hg<;>(try rw[hg])<;>try simp only[NM]at hg)|omega|simp -dsimp (disch:=try exact zo) only[go_sem]|contradiction|rfl)
set_option maxHeartbeats 8000000 in
theorem c131 (u v:Geo.V) (hu:QV 8388608 u) (hv:QV 8388608 v):CallOK Tryz.prog 131 [.agg (eV u.x u.y u.z),.agg (eV v.x v.y v.z)] [] (.agg (eQ (Geo.dot u v))) []:=by
 refine CallOK.flat Tryz.func131 rfl 22 rfl rfl rfl [.cell 4 41] (congrArg Array.toList Tryz.results131) ?_
 simp only[startT,Nat.reduceAdd]
 obtain ⟨u1,u2,u3⟩:=hu.mono (show 8388608≤67108864 by decide)
 obtain ⟨v1,v2,v3⟩:=hv.mono (show 8388608≤67108864 by decide)
 have p1:=(hu.x.mul hv.x).mono (show 8388608+8388608≤67108864 by decide)
 have p2:=(hu.y.mul hv.y).mono (show 8388608+8388608≤67108864 by decide)
 have p3:=(hu.z.mul hv.z).mono (show 8388608+8388608≤67108864 by decide)
 have q1:=((hu.x.mul hv.x).add (hu.y.mul hv.y)).mono (show 8388608+8388608+(8388608+8388608)+1≤67108864 by decide)
 unfold Geo.dot
 clear hu hv
 repeat' (first|refine zg ?_|(refine AW.cond rfl ?_ ?_<;>intro hc<;>try simp only[NM]at hc)|refine zr ?_|(refine callV.flat _ yfn_182 (c182 _ (by assumption) _ (by assumption)) rfl rfl ?_)|(refine callV.flat _ yfn_64 (c64 _ (by assumption) _ (by assumption)) rfl rfl ?_)|refine ⟨by omega,?_⟩|(refine zb ?_ ?_<;>intro hg<;>(try rw[hg])<;>try simp only[NM]at hg)|omega|simp -dsimp (disch:=try exact zo) only[go_sem]|contradiction|rfl)
set_option maxHeartbeats 3200000 in
theorem c261 (p:Pl) (hp:BPl 268435456 p):CallOK Tryz.prog 261 [.agg (eH p)] [] (.tup [.agg (eV (tH p).n.x (tH p).n.y (tH p).n.z),.agg (eQ (tH p).d)]) []:=by
 refine CallOK.flat Tryz.func261 rfl 17 rfl rfl rfl [.cell 2 103,.cell 3 41] (congrArg Array.toList Tryz.results261) ?_
 simp only[startT,Nat.reduceAdd]
 obtain ⟨⟨ha,hb,hc,hd⟩⟩:=hp
 unfold tH
 repeat' (first|refine zg ?_|(refine AW.cond rfl ?_ ?_<;>intro hc<;>try simp only[NM]at hc)|refine zr ?_|(first|refine callV.flat _ yfn_270 (c270 p.a ha) rfl rfl ?_|refine callV.flat _ yfn_270 (c270 p.b hb) rfl rfl ?_|refine callV.flat _ yfn_270 (c270 p.c hc) rfl rfl ?_|refine callV.flat _ yfn_270 (c270 p.d hd) rfl rfl ?_)|refine ⟨by omega,?_⟩|(refine zb ?_ ?_<;>intro hg<;>(try rw[hg])<;>try simp only[NM]at hg)|omega|simp -dsimp (disch:=try exact zo) only[go_sem]|contradiction|rfl)
theorem pl_qs {p:Pl} {k:Nat} (h:BPl k p) (hk:1≤k):QV k (tH p).n∧Qs k (tH p).d:=⟨⟨qs_int h.out.a hk,qs_int h.out.b hk,qs_int h.out.c hk⟩,qs_int h.out.d hk⟩
theorem meetR {p : Pl} {a b : Pt} (ha : CanP a) (hb : CanP b) (h : sideP p a * sideP p b < 0) :
  Geo.dot (tH p).n (tv b - tv a)≠0∧mkP ((tv a).x+(tv b - tv a).x*(((tH p).d - Geo.dot (tH p).n (tv a)) / Geo.dot (tH p).n (tv b - tv a))) ((tv a).y+(tv b - tv a).y*(((tH p).d - Geo.dot (tH p).n (tv a)) / Geo.dot (tH p).n (tv b - tv a))) ((tv a).z+(tv b - tv a).z*(((tH p).d - Geo.dot (tH p).n (tv a)) / Geo.dot (tH p).n (tv b - tv a)))=meetP p a b:=by
 have h1:=(opp_iff ha.w hb.w).1 h
 have e1:Geo.dot (tH p).n (tv b - tv a)=(tH p).at (tv b) - (tH p).at (tv a):=Geo.at_sub _ _ _
 have e2:(tH p).d - Geo.dot (tH p).n (tv a)=- (tH p).at (tv a):=by unfold Geo.H.at;grind
 have hne:(tH p).at (tv b) - (tH p).at (tv a)≠0:=by
  intro e
  have e3:(tH p).at (tv b)=(tH p).at (tv a):=by grind
  rw[e3]at h1
  have:=Geo.sq_nonneg ((tH p).at (tv a))
  grind
 refine ⟨by rw[e1];exact hne,?_⟩
 refine tv_inj (mkP_can _ _ _) (meet_can _ _ _) ?_
 rw[tv_mkP,meet_tv ha.w hb.w h,e1,e2]
 unfold Geo.X
 have e4:-(tH p).at (tv a) / ((tH p).at (tv b) - (tH p).at (tv a))=(tH p).at (tv a) / ((tH p).at (tv a) - (tH p).at (tv b)):=by
  generalize (tH p).at (tv a)=x at *
  generalize (tH p).at (tv b)=y at *
  have:x - y≠0:=by grind
  rw[Rat.div_def,Rat.div_def]
  have k1:=Rat.mul_inv_cancel _ hne
  have k2:=Rat.mul_inv_cancel _ this
  grind
 rw[e4]
 apply Geo.V.ext<;>simp only[Geo.lerp,Geo.add_x,Geo.add_y,Geo.add_z,Geo.smul_x,Geo.smul_y,Geo.smul_z]<;>grind
set_option maxHeartbeats 16000000 in
theorem c247 (p:Pl) (a b:Pt) (hp:BPl 1048576 p) (ha:CanP a) (hb:CanP b) (ba:BPt 1048576 a) (bb:BPt 1048576 b) (h:sideP p a*sideP p b<0):CallOK Tryz.prog 247 [.agg (eH p),.agg (eP a),.agg (eP b)] [] (.tup [.agg (eP (meetP p a b)),.lit (.bool true)]) []:=by
 refine CallOK.flat Tryz.func247 rfl 47 rfl rfl rfl [.cell 6 51,.tmp 7] (congrArg Array.toList Tryz.results247) ?_
 simp only[startT,Nat.reduceAdd]
 obtain ⟨hne,hm⟩:=meetR ha hb h
 have cn:=c261 p (hp.mono (by decide))
 have ca:=c128 a ha (ba.mono (by decide))
 have cw:=c262 b a hb ha (bb.mono (by decide)) (ba.mono (by decide))
 obtain ⟨qn,qd⟩:=pl_qs hp (by decide)
 have qa:=tv_qs ha ba
 have qw:=sub_qs (tv_qs hb bb) qa
 have c1:=c131 (tH p).n (tv b - tv a) (qn.mono (by decide)) (qw.mono (by decide))
 have c2:=c131 (tH p).n (tv a) (qn.mono (by decide)) (qa.mono (by decide))
 have q1:=dot_qs qn qw
 have q2:=dot_qs qn qa
 have q3:=qd.sub q2
 have q4:=q3.div q1 hne
 have q5:=smul_qs qw q4
 have cs:=c63 _ (q1.mono (show _≤67108864 by decide))
 have cd:=c183 (tH p).d (qd.mono (by decide)) _ (q2.mono (show _≤67108864 by decide))
 have ct:=c129 _ (q3.mono (show _≤67108864 by decide)) _ (q1.mono (show _≤67108864 by decide)) hne
 have cm:=c264 (tv b - tv a) _ (qw.mono (by decide)) (q4.mono (show _≤33554432 by decide))
 have q6:QV 33554432 ⟨(tv b - tv a).x*(((tH p).d - Geo.dot (tH p).n (tv a)) / Geo.dot (tH p).n (tv b - tv a)),(tv b - tv a).y*(((tH p).d - Geo.dot (tH p).n (tv a)) / Geo.dot (tH p).n (tv b - tv a)),(tv b - tv a).z*(((tH p).d - Geo.dot (tH p).n (tv a)) / Geo.dot (tH p).n (tv b - tv a))⟩:=⟨(qw.x.mul q4).mono (by decide),(qw.y.mul q4).mono (by decide),(qw.z.mul q4).mono (by decide)⟩
 have cp:=c263 (tv a) _ (qa.mono (by decide)) q6
 have q7:=add_qs qa q6
 have co:=c130 _ _ _ (q7.x.mono (show _≤67108864 by decide)) (q7.y.mono (show _≤67108864 by decide)) (q7.z.mono (show _≤67108864 by decide))
 simp only[Geo.add_x,Geo.add_y,Geo.add_z]at co
 rw[hm]at co
 dsimp only at cp
 have k0:(sg (Geo.dot (tH p).n (tv b - tv a)).num=0)=False:=eq_false fun e=>hne (Rat.num_eq_zero.1 (sg_zero.1 e))
 clear q1 q2 q3 q4 q5 q6 q7 qn qd qa qw hne hm ha hb ba bb hp h
 generalize ((tH p).d - Geo.dot (tH p).n (tv a)) / Geo.dot (tH p).n (tv b - tv a)=T at *
 generalize (tH p).d - Geo.dot (tH p).n (tv a)=D at *
 generalize Geo.dot (tH p).n (tv b - tv a)=B at *
 generalize Geo.dot (tH p).n (tv a)=E at *
 generalize tv b - tv a=W at *
 generalize tv a=A at *
 generalize tH p=H at *
 generalize meetP p a b=M at *
 repeat' (first|refine zg ?_|(refine AW.cond rfl ?_ ?_<;>intro hc<;>first|simp only[NM]at hc|omega|skip)|refine zr ?_|(refine callV.flat _ yfn_261 cn rfl rfl ?_)|(refine callV.flat _ yfn_262 cw rfl rfl ?_)|(first|refine callV.flat _ yfn_131 c1 rfl rfl ?_|refine callV.flat _ yfn_131 c2 rfl rfl ?_)|(refine callV.flat _ yfn_63 cs rfl rfl ?_)|(refine callV.flat _ yfn_128 ca rfl rfl ?_)|(refine callV.flat _ yfn_183 cd rfl rfl ?_)|(refine callV.flat _ yfn_129 ct rfl rfl ?_)|(refine callV.flat _ yfn_264 cm rfl rfl ?_)|(refine callV.flat _ yfn_263 cp rfl rfl ?_)|(refine callV.flat _ yfn_130 co rfl rfl ?_)|refine ⟨by omega,?_⟩|(refine zb ?_ ?_<;>intro hg<;>(try rw[hg])<;>try simp only[NM]at hg)|omega|simp -dsimp (disch:=try exact zo) only[go_sem,k0]|contradiction|rfl)
set_option maxHeartbeats 8000000 in
theorem c50 (p:Pl) (x:Pt) (hp:BPl 268435456 p) (hx:BPt 268435456 x):CallOK Tryz.prog 50 [.agg (eH p),.agg (eP x)] [] (.lit (.int .i64 (sideP p x))) []:=by
 refine CallOK.flat Tryz.func50 rfl 35 rfl rfl rfl [.tmp 4] (congrArg Array.toList Tryz.results50) ?_
 simp only[startT,Nat.reduceAdd]
 obtain ⟨⟨s1,s2,s3,s4⟩⟩:=hp
 obtain ⟨⟨r1,r2,r3,r4⟩⟩:=hx
 have t1:=zs_mul p.d x.w s4 r4
 have t2:=zs_mul p.a x.x s1 r1
 have t3:=zs_mul p.b x.y s2 r2
 have t4:=zs_mul p.c x.z s3 r3
 rw[← Zm_neg (p.d*x.w)]at t1
 have u1:=zs_add _ _ t1 t2
 have u2:=zs_add _ _ u1 (Nat.le_succ_of_le t3)
 have u3:=zs_add _ _ u2 (Nat.le_succ_of_le (Nat.le_succ_of_le t4))
 have t0:(Zm (p.d*x.w)).size≤536870912:=by rw[← Zm_neg];exact t1
 have e:sideP p x=sg (-(p.d*x.w)+p.a*x.x+p.b*x.y+p.c*x.z):=by
  unfold sideP abv
  congr 1
  omega
 rw[e]
 repeat' (first|refine zg ?_|(refine AW.cond rfl ?_ ?_<;>intro hc<;>try simp only[NM]at hc)|refine zr ?_|(first|refine callV.flat _ yfn_112 (c112 (p.d) (x.w) (by omega) (by omega)) rfl rfl ?_|refine callV.flat _ yfn_112 (c112 (p.a) (x.x) (by omega) (by omega)) rfl rfl ?_|refine callV.flat _ yfn_112 (c112 (p.b) (x.y) (by omega) (by omega)) rfl rfl ?_|refine callV.flat _ yfn_112 (c112 (p.c) (x.z) (by omega) (by omega)) rfl rfl ?_)|(refine callV.flat _ yfn_89 (c89w (p.d*x.w) (by omega)) rfl rfl ?_)|(first|refine callV.flat _ yfn_114 (c114 (-(p.d*x.w)) (p.a*x.x) (by omega) (by omega)) rfl rfl ?_|refine callV.flat _ yfn_114 (c114 (-(p.d*x.w)+p.a*x.x) (p.b*x.y) (by omega) (by omega)) rfl rfl ?_|refine callV.flat _ yfn_114 (c114 (-(p.d*x.w)+p.a*x.x+p.b*x.y) (p.c*x.z) (by omega) (by omega)) rfl rfl ?_)|(refine callV.flat _ yfn_86 (c86w (-(p.d*x.w)+p.a*x.x+p.b*x.y+p.c*x.z) (by omega)) rfl rfl ?_)|refine ⟨by omega,?_⟩|(refine zb ?_ ?_<;>intro hg<;>(try rw[hg])<;>try simp only[NM]at hg)|omega|simp -dsimp (disch:=try exact zo) only[go_sem]|contradiction|rfl)
set_option maxHeartbeats 3200000 in
theorem c51 (p:Pl) (hp:BPl 268435456 p):CallOK Tryz.prog 51 [.agg (eH p)] [] (.agg (eH (negP p))) []:=by
 refine CallOK.flat Tryz.func51 rfl 16 rfl rfl rfl [.cell 2 26] (congrArg Array.toList Tryz.results51) ?_
 simp only[startT,Nat.reduceAdd]
 obtain ⟨⟨s1,s2,s3,s4⟩⟩:=hp
 unfold negP
 repeat' (first|refine zg ?_|(refine AW.cond rfl ?_ ?_<;>intro hc<;>try simp only[NM]at hc)|refine zr ?_|(first|refine callV.flat _ yfn_89 (c89w p.a (by omega)) rfl rfl ?_|refine callV.flat _ yfn_89 (c89w p.b (by omega)) rfl rfl ?_|refine callV.flat _ yfn_89 (c89w p.c (by omega)) rfl rfl ?_|refine callV.flat _ yfn_89 (c89w p.d (by omega)) rfl rfl ?_)|refine ⟨by omega,?_⟩|(refine zb ?_ ?_<;>intro hg<;>(try rw[hg])<;>try simp only[NM]at hg)|omega|simp -dsimp (disch:=try exact zo) only[go_sem]|contradiction|rfl)
end Go.Proofs.Vx
namespace Go.Sx
open Geo (H V Sd)
set_option linter.unusedVariables false
def Rot {α:Type} (a b:List α):Prop:=∃ A B,a=A++B∧b=B++A
theorem Rot.refl {α:Type} (a:List α):Rot a a:=⟨a,[],by simp,by simp⟩
theorem Rot.perm {α:Type} {a b:List α} (h:Rot a b):a.Perm b:=by obtain ⟨A,B,rfl,rfl⟩:=h;exact List.perm_append_comm
theorem Rot.edges {α:Type} {a b:List α} (h:Rot a b):(Geo.edges a).Perm (Geo.edges b):=by obtain ⟨A,B,rfl,rfl⟩:=h;exact Geo.edges_rot A B
theorem Rot.flat {α β:Type} {a b:List α} (f:α × α→List β) (h:Rot a b):Rot ((Geo.edges a).flatMap f) ((Geo.edges b).flatMap f):=by
 obtain ⟨A,B,rfl,rfl⟩:=h
 cases A with
 | nil=>rw[List.nil_append,List.append_nil];exact Rot.refl _
 | cons x A=>cases B with
  | nil=>rw[List.nil_append,List.append_nil];exact Rot.refl _
  | cons y B =>
   refine ⟨(Geo.path (x::A++[y])).flatMap f,(Geo.path (y::B++[x])).flatMap f,?_,?_⟩
   ·rw[Geo.edges_append,List.flatMap_append]
   ·rw[Geo.edges_append,List.flatMap_append]
theorem Rot.any {α:Type} {a b:List α} (f:α→Bool) (h:Rot a b):a.any f=b.any f:=by
 obtain ⟨A,B,rfl,rfl⟩:=h
 rw[List.any_append,List.any_append,Bool.or_comm]
def SR (s t:Pl × List Pt):Prop:=s.1=t.1∧Rot s.2 t.2
inductive RL:PCell→PCell→Prop
 | nil:RL [] []
 | cons {s t:Pl × List Pt} {l m:PCell} (h:SR s t) (r:RL l m):RL (s::l) (t::m)
def RC (l m:PCell):Prop:=∃ k,l.Perm k∧RL k m
theorem RL.append {l m l' m':PCell} (h:RL l m) (k:RL l' m'):RL (l++l') (m++m'):=by
 induction h with
 | nil=>exact k
 | cons h _ ih=>exact .cons h ih
theorem RC.append {l m l' m':PCell} (h:RC l m) (k:RC l' m'):RC (l++l') (m++m'):=by
 obtain ⟨a,h1,h2⟩:=h
 obtain ⟨b,k1,k2⟩:=k
 exact ⟨a++b,h1.append k1,h2.append k2⟩
theorem RL.length {l m:PCell} (h:RL l m):l.length=m.length:=by
 induction h with
 | nil=>rfl
 | cons _ _ ih=>simp[ih]
theorem RC.length {l m:PCell} (h:RC l m):l.length=m.length:=by obtain ⟨k,h1,h2⟩:=h;rw[h1.length_eq,h2.length]
theorem RC.nil_iff {l m:PCell} (h:RC l m):l=[]↔m=[]:=by rw[← List.length_eq_zero_iff,← List.length_eq_zero_iff,h.length]
theorem RL.mem {l m:PCell} (h:RL l m):(∀ s∈l,∃ t∈m,SR s t)∧∀ t∈m,∃ s∈l,SR s t:=by
 induction h with
 | nil=>exact ⟨by simp,by simp⟩
 | cons h _ ih =>
  refine ⟨fun s hs=>?_,fun t ht=>?_⟩
  ·rcases List.mem_cons.1 hs with rfl|hs
   ·exact ⟨_,by simp,h⟩
   ·obtain ⟨t,ht,k⟩:=ih.1 s hs;exact ⟨t,by simp[ht],k⟩
  ·rcases List.mem_cons.1 ht with rfl|ht
   ·exact ⟨_,by simp,h⟩
   ·obtain ⟨s,hs,k⟩:=ih.2 t ht;exact ⟨s,by simp[hs],k⟩
theorem RC.mem {l m:PCell} (h:RC l m):(∀ s∈l,∃ t∈m,SR s t)∧∀ t∈m,∃ s∈l,SR s t:=by
 obtain ⟨k,h1,h2⟩:=h
 refine ⟨fun s hs=>h2.mem.1 s (h1.mem_iff.1 hs),fun t ht=>?_⟩
 obtain ⟨s,hs,k⟩:=h2.mem.2 t ht
 exact ⟨s,h1.mem_iff.2 hs,k⟩
theorem RC.any {l m:PCell} (f:Pl × List Pt→Bool) (hf:∀ s t,SR s t→f s=f t) (h:RC l m):l.any f=m.any f:=by
 apply Bool.eq_iff_iff.2
 simp only[List.any_eq_true]
 constructor
 ·rintro ⟨s,hs,e⟩;obtain ⟨t,ht,k⟩:=h.mem.1 s hs;exact ⟨t,ht,by rw[← hf s t k];exact e⟩
 ·rintro ⟨t,ht,e⟩;obtain ⟨s,hs,k⟩:=h.mem.2 t ht;exact ⟨s,hs,by rw[hf s t k];exact e⟩
theorem RC.front {l m:PCell} (h:RC l m) (b:Pl):frontB b l=frontB b m:=h.any _ fun s t k=>k.2.any _
theorem RC.behind {l m:PCell} (h:RC l m) (b:Pl):behindB b l=behindB b m:=h.any _ fun s t k=>k.2.any _
theorem RC.corner {l m:PCell} (h:RC l m) (x:Pt):(∃ s∈m,x∈s.2)↔∃ s∈l,x∈s.2:=by
 constructor
 ·rintro ⟨t,ht,e⟩;obtain ⟨s,hs,k⟩:=h.mem.2 t ht;exact ⟨s,hs,k.2.perm.mem_iff.2 e⟩
 ·rintro ⟨s,hs,e⟩;obtain ⟨t,ht,k⟩:=h.mem.1 s hs;exact ⟨t,ht,k.2.perm.mem_iff.1 e⟩
theorem RC.bd {l m:PCell} (h:RC l m) {S M K:Nat} (hb:Bd S M K m):Bd S M K l:=by
 refine ⟨by rw[h.length];exact hb.n,fun s hs=>?_,fun s hs v hv=>?_,fun s hs=>?_⟩<;>obtain ⟨t,ht,k⟩:=h.mem.1 s hs
 ·rw[k.2.perm.length_eq];exact hb.m t ht
 ·exact hb.k t ht v (k.2.perm.mem_iff.1 hv)
 ·rw[k.1];exact hb.p t ht
theorem RL.filterMap {l m:PCell} (f:Pl × List Pt→Option (Pl × List Pt)) (hf:∀ s t,SR s t→(f s=none∧f t=none)∨∃ s' t',f s=some s'∧f t=some t'∧SR s' t') (h:RL l m):RL (l.filterMap f) (m.filterMap f):=by
 induction h with
 | nil=>exact .nil
 | cons h _ ih =>
  rcases hf _ _ h with ⟨h1,h2⟩|⟨s',t',h1,h2,h3⟩
  ·rw[List.filterMap_cons_none h1,List.filterMap_cons_none h2];exact ih
  ·rw[List.filterMap_cons_some h1,List.filterMap_cons_some h2];exact .cons h3 ih
theorem RC.filterMap {l m:PCell} (f:Pl × List Pt→Option (Pl × List Pt)) (hf:∀ s t,SR s t→(f s=none∧f t=none)∨∃ s' t',f s=some s'∧f t=some t'∧SR s' t') (h:RC l m):RC (l.filterMap f) (m.filterMap f):=by
 obtain ⟨k,h1,h2⟩:=h
 exact ⟨k.filterMap f,h1.filterMap f,h2.filterMap f hf⟩
theorem RC.es {l m:PCell} (h:RC l m):(esP l).Perm (esP m):=by
 obtain ⟨k,h1,h2⟩:=h
 refine (h1.flatMap_right _).trans ?_
 clear h1
 induction h2 with
 | nil=>exact List.Perm.refl _
 | cons h _ ih=>exact (h.2.edges).append ih
theorem RC.bhs {l m:PCell} (h:RC l m) (b:Pl):RC (bh b l) (bh b m):=by
 refine h.filterMap _ fun s t k=>?_
 have e:someT (-1) b s.2 s.2.length=someT (-1) b t.2 t.2.length:=by unfold someT;rw[List.take_length,List.take_length];exact k.2.any _
 by_cases q:someT (-1) b t.2 t.2.length=true
 ·exact .inr ⟨_,_,if_pos (e.trans q),if_pos q,k.1,k.2.flat _⟩
 ·exact .inl ⟨if_neg (by rw[e];exact q),if_neg q⟩
theorem runP'_add (nx:Pt→Pt) (i j:Nat) (x:Pt):runP' nx (i+j) x=runP' nx i x++runP' nx j (itP nx i x):=by
 induction i generalizing x with
 | zero=>rw[Nat.zero_add];rfl
 | succ i ih=>rw[Nat.succ_add,runP',ih (nx x)];rfl
theorem runP'_congr {S:List Pt} {nx ny:Pt→Pt} (h:∀ x∈S,nx x=ny x∧nx x∈S) (n:Nat) {x:Pt} (hx:x∈S):runP' nx n x=runP' ny n x:=by
 induction n generalizing x with
 | zero=>rfl
 | succ n ih=>rw[runP',runP',← (h x hx).1,ih (h x hx).2]
theorem itP_mem {S:List Pt} {nx:Pt→Pt} (h:∀ x∈S,nx x∈S) (n:Nat) {x:Pt} (hx:x∈S):itP nx n x∈S:=by
 induction n with
 | zero=>exact hx
 | succ n ih=>rw[itP_succ];exact h _ ih
theorem CapF.cl {b:Pl} {l:PCell} (C:CapF b l):∀ x∈(heP b l).map (·.2),nxP ((heP b l).map Geo.sw) x∈(heP b l).map (·.2):=by
 intro x hx
 obtain ⟨e,he,rfl⟩:=List.mem_map.1 hx
 rw[C.nx e he];exact C.io e he
theorem run_mem {S:List Pt} {nx:Pt→Pt} (h:∀ x∈S,nx x∈S) (n:Nat) {x:Pt} (hx:x∈S):∀ v∈runP' nx n x,v∈S:=by
 induction n generalizing x with
 | zero=>intro v hv;simp[runP']at hv
 | succ n ih =>
  intro v hv
  rw[runP']at hv
  rcases List.mem_cons.1 hv with rfl|hv
  ·exact hx
  ·exact ih (h x hx) v hv
theorem CapF.rot {b : Pl} {l : PCell} (h : CellOK l) (C : CapF b l) {f f' : Pt} (hf : f ∈ (heP b l).map (·.2)) (hf' : f' ∈ (heP b l).map (·.2)) :
  Rot (runP' (nxP ((heP b l).map Geo.sw)) (heP b l).length f) (runP' (nxP ((heP b l).map Geo.sw)) (heP b l).length f'):=by
 have hcan:∀ x∈(heP b l).map (·.2),CanP x:=fun x hx=>by
  obtain ⟨e,he,rfl⟩:=List.mem_map.1 hx
  exact (es_w (bh_can h.toCanC) e (List.mem_filter.1 he).1).2
 have hcan1:∀ e∈heP b l,CanP e.1:=fun e he=>(es_w (bh_can h.toCanC) e (List.mem_filter.1 he).1).1
 obtain ⟨K,hK⟩:=C.run f hf
 have hcl:=C.cl
 have hnx:=C.nx
 have hn:0<(heP b l).length:=List.length_pos_iff.2 C.ne
 have hrl:=runP'_length (nxP ((heP b l).map Geo.sw)) (heP b l).length f
 have hrm:=run_mem hcl (heP b l).length hf
 have hed:=K.ed
 rw[C.hHE]at hed
 generalize hnxq:nxP ((heP b l).map Geo.sw)=nx at *
 generalize hnq:(heP b l).length=n at *
 have hret:itP nx n f=f:=by
  obtain ⟨k,rfl⟩:∃ k,n=k+1:=⟨n - 1,by omega⟩
  have hz:=itP_mem hcl k hf
  rw[itP_succ]
  have hmem:(tv (itP nx k f),tv f)∈Geo.edges ((runP' nx (k+1) f).map tv):=by
   rw[runP'_succ]
   cases k with
   | zero=>simp[runP',itP,Geo.edges,Geo.path]
   | succ k =>
    rw[runP',List.map_append,List.map_cons]
    rw[show ([itP nx (k+1) f].map tv)=tv (itP nx (k+1) f)::[]from rfl,Geo.edges_append]
    simp[Geo.path]
  obtain ⟨e2,h2,h3⟩:=List.mem_map.1 (hed.mem_iff.1 hmem)
  obtain ⟨e,he,rfl⟩:=List.mem_map.1 h2
  have q1:tv e.2=tv (itP nx k f):=congrArg Prod.fst h3
  have q2:tv e.1=tv f:=congrArg Prod.snd h3
  have r1:e.2=itP nx k f:=tv_inj (hcan _ (List.mem_map_of_mem he)) (hcan _ hz) q1
  have r2:e.1=f:=tv_inj (hcan1 e he) (hcan f hf) q2
  rw[← r1,hnx e he,r2]
 have hmet:f'∈runP' nx n f:=by
  have h1:(Geo.edges ((runP' nx n f).map tv)).map (·.1)=(runP' nx n f).map tv:=Geo.edges_fst _
  have h2:tv f'∈(runP' nx n f).map tv:=by
   rw[← h1]
   obtain ⟨e,he,rfl⟩:=List.mem_map.1 hf'
   exact List.mem_map.2 ⟨Geo.sw (tv2 e),hed.mem_iff.2 (List.mem_map_of_mem (List.mem_map_of_mem he)),rfl⟩
  obtain ⟨y,hy,e⟩:=List.mem_map.1 h2
  rw[← tv_inj (hcan y (hrm y hy)) (hcan f' hf') e];exact hy
 have hat:∀ (n:Nat) (x y:Pt),y∈runP' nx n x→∃ i,i<n∧y=itP nx i x:=by
  intro n
  induction n with
  | zero=>intro x y hy;simp[runP']at hy
  | succ n ih =>
   intro x y hy
   rw[runP']at hy
   rcases List.mem_cons.1 hy with rfl|hy
   ·exact ⟨0,by omega,rfl⟩
   ·obtain ⟨i,hi,e⟩:=ih _ _ hy
    exact ⟨i+1,by omega,e⟩
 obtain ⟨i,hi,e⟩:=hat n f f' hmet
 have hadd:∀ (i j:Nat) (x:Pt),itP nx (i+j) x=itP nx j (itP nx i x):=by
  intro i
  induction i with
  | zero=>intro j x;rw[Nat.zero_add];rfl
  | succ i ih=>intro j x;rw[Nat.succ_add];exact ih j (nx x)
 refine ⟨runP' nx i f,runP' nx (n - i) f',?_,?_⟩
 ·rw[e,← runP'_add,show i+(n - i)=n by omega]
 ·have:itP nx (n - i) f'=f:=by rw[e,← hadd,show i+(n - i)=n by omega,hret]
  conv=>rhs;rhs;rw[← this]
  rw[← runP'_add,show n - i+i=n by omega]
def capR (b:Pl) (l:PCell):List Pt:=runP' (nxP (((esP l).filter (onE b)).map Geo.sw)) ((esP l).filter (onE b)).length ((((esP l).filter (onE b)).map (·.2)).headD P0)
def bcellR (b:Pl) (l:PCell):PCell:=bh b l++[(b,capR b (bh b l))]
def splitR (b:Pl) (l:PCell):PCell × PCell:=if frontB b l=false then (l,[])else if behindB b l=false then ([],l)else (bcellR b l,bcellR (negP b) l)
def cutStepR (c:PCell) (p:Pl):PCell:=if (splitR p c).1=[]then c else (splitR p c).1
def worldR:PCell:=[
 (⟨1,0,0,1000⟩,[wpt 1 (-1) (-1),wpt 1 1 (-1),wpt 1 1 1,wpt 1 (-1) 1]),
 (⟨-1,0,0,1000⟩,[wpt (-1) (-1) (-1),wpt (-1) (-1) 1,wpt (-1) 1 1,wpt (-1) 1 (-1)]),
 (⟨0,1,0,1000⟩,[wpt (-1) 1 (-1),wpt (-1) 1 1,wpt 1 1 1,wpt 1 1 (-1)]),
 (⟨0,-1,0,1000⟩,[wpt (-1) (-1) (-1),wpt 1 (-1) (-1),wpt 1 (-1) 1,wpt (-1) (-1) 1]),
 (⟨0,0,1,1000⟩,[wpt (-1) (-1) 1,wpt 1 (-1) 1,wpt 1 1 1,wpt (-1) 1 1]),
 (⟨0,0,-1,1000⟩,[wpt (-1) (-1) (-1),wpt (-1) 1 (-1),wpt 1 1 (-1),wpt 1 (-1) (-1)])]
def cutR (ps:List Pl):PCell:=ps.foldl cutStepR worldR
theorem heR {b:Pl} {l:PCell}:(esP (bh b l)).filter (onE b)=heP b l:=rfl
theorem headD_mem {α:Type} {d:α} {l:List α} (h:l≠[]):l.headD d∈l:=by
 cases l with
 | nil=>exact absurd rfl h
 | cons x l=>simp
theorem capR_eq {b:Pl} {l:PCell} (C:CapF b l):∃ f∈(heP b l).map (·.2),capR b (bh b l)=runP' (nxP ((heP b l).map Geo.sw)) (heP b l).length f :=
 ⟨((heP b l).map (·.2)).headD P0,headD_mem (by simpa using C.ne),by unfold capR;rw[heR]⟩
theorem bcellR_ok {b:Pl} {l:PCell} (h:CellOK l) (hS:Geo.Spl (sds l) (tH b)):CellOK (bcellR b l):=by
 have C:=capF_of h hS
 obtain ⟨f,hf,e⟩:=capR_eq C
 obtain ⟨K,hc⟩:=C.run f hf
 rw[← e]at K hc
 refine ⟨⟨fun s hs=>?_⟩,?_⟩
 ·rcases List.mem_append.1 hs with hs|hs
  ·exact (bh_can h.toCanC).can s hs
  ·obtain rfl:s=_:=by simpa using hs
   exact hc
 ·have e2:sds (bcellR b l)=Geo.cutSides (tH b) (sds l)++[⟨tH b,(capR b (bh b l)).map tv⟩]:=by
   show (bh b l++[(b,capR b (bh b l))]).map sd=_
   rw[List.map_append]
   show sds (bh b l)++_=_
   rw[bh_sds h.toCanC]
   rfl
  rw[e2]
  exact hS.cell K
theorem splR_ok {b:Pl} {l:PCell} (h:CellOK l):((splitR b l).1=[]∨CellOK (splitR b l).1)∧((splitR b l).2=[]∨CellOK (splitR b l).2):=by
 unfold splitR
 by_cases hf:frontB b l=false
 ·rw[if_pos hf];exact ⟨.inr h,.inl rfl⟩
 ·rw[if_neg hf]
  by_cases hb:behindB b l=false
  ·rw[if_pos hb];exact ⟨.inl rfl,.inr h⟩
  ·rw[if_neg hb]
   have hf':frontB b l=true:=by simpa using hf
   have hb':behindB b l=true:=by simpa using hb
   exact ⟨.inr (bcellR_ok h (spl_of h hf' hb')),.inr (bcellR_ok h (spl_of h (by rw[front_neg];exact hb') (by rw[behind_neg];exact hf')))⟩
theorem nx_perm {m m':List (Pt × Pt)} (h:m.Perm m') (hn:(m.map (·.1)).Nodup) {k:Pt} (hk:k∈m.map (·.1)):nxP m k=nxP m' k:=by
 obtain ⟨e,he,rfl⟩:=List.mem_map.1 hk
 rw[find_key hn he,find_key ((h.map (·.1)).nodup_iff.1 hn) (h.mem_iff.1 he)]
theorem RC.cell {l m:PCell} (h:RC l m) (hl:CellOK l) (hm:CellOK m) {b:Pl} (h1:Geo.Spl (sds l) (tH b)) (h2:Geo.Spl (sds m) (tH b)):RC (bcellR b l) (bcell b m):=by
 have C:=capF_of hl h1
 have D:=capF_of hm h2
 have hb:=h.bhs b
 have hp:(heP b l).Perm (heP b m):=hb.es.filter _
 obtain ⟨f,hf,e⟩:=capR_eq C
 obtain ⟨f',hf',e'⟩:=D.ex
 have hn:(((heP b l).map Geo.sw).map (·.1)).Nodup:=by rw[List.map_map];exact C.nd
 have hk:∀ x∈(heP b l).map (·.2),nxP ((heP b l).map Geo.sw) x=nxP ((heP b m).map Geo.sw) x:=fun x hx=>nx_perm (hp.map _) hn (by rw[List.map_map];exact hx)
 have hf2:f'∈(heP b l).map (·.2):=(hp.map _).mem_iff.2 hf'
 refine hb.append ⟨[(b,capR b (bh b l))],List.Perm.refl _,.cons ⟨rfl,?_⟩ .nil⟩
 show Rot (capR b (bh b l)) (capP b (bh b m))
 rw[e,e',← hp.length_eq,← runP'_congr (S:=(heP b l).map (·.2)) (fun x hx=>⟨hk x hx,C.cl x hx⟩) _ hf2]
 exact C.rot hl hf hf2
theorem rc_nil:RC [] []:=⟨[],List.Perm.refl _,.nil⟩
theorem RC.spl {l m:PCell} (h:RC l m) (hl:CellOK l) (hm:CellOK m) (b:Pl):RC (splitR b l).1 (splitP b m).1∧RC (splitR b l).2 (splitP b m).2:=by
 unfold splitR splitP
 rw[h.front,h.behind]
 by_cases hf:frontB b m=false
 ·rw[if_pos hf,if_pos hf];exact ⟨h,rc_nil⟩
 ·rw[if_neg hf,if_neg hf]
  by_cases hb:behindB b m=false
  ·rw[if_pos hb,if_pos hb];exact ⟨rc_nil,h⟩
  ·rw[if_neg hb,if_neg hb]
   have hf':frontB b m=true:=by simpa using hf
   have hb':behindB b m=true:=by simpa using hb
   exact ⟨h.cell hl hm (spl_of hl (by rw[h.front];exact hf') (by rw[h.behind];exact hb')) (spl_of hm hf' hb'),
    h.cell hl hm (spl_of hl (by rw[front_neg,h.behind];exact hb') (by rw[behind_neg,h.front];exact hf')) (spl_of hm (by rw[front_neg];exact hb') (by rw[behind_neg];exact hf'))⟩
theorem rot_next {α:Type} (x:α) (l:List α):Rot (x::l) (l++[x]):=⟨[x],l,rfl,rfl⟩
theorem world_rc:RC worldR worldP:=by
 refine ⟨[(⟨-1,0,0,1000⟩,[wpt (-1) (-1) (-1),wpt (-1) (-1) 1,wpt (-1) 1 1,wpt (-1) 1 (-1)]),(⟨1,0,0,1000⟩,[wpt 1 (-1) (-1),wpt 1 1 (-1),wpt 1 1 1,wpt 1 (-1) 1]),
  (⟨0,-1,0,1000⟩,[wpt (-1) (-1) (-1),wpt 1 (-1) (-1),wpt 1 (-1) 1,wpt (-1) (-1) 1]),(⟨0,1,0,1000⟩,[wpt (-1) 1 (-1),wpt (-1) 1 1,wpt 1 1 1,wpt 1 1 (-1)]),
  (⟨0,0,-1,1000⟩,[wpt (-1) (-1) (-1),wpt (-1) 1 (-1),wpt 1 1 (-1),wpt 1 (-1) (-1)]),(⟨0,0,1,1000⟩,[wpt (-1) (-1) 1,wpt 1 (-1) 1,wpt 1 1 1,wpt (-1) 1 1])],?_,?_⟩
 ·exact (List.Perm.swap _ _ _).trans (((List.Perm.swap _ _ _).trans ((List.Perm.swap _ _ _).cons _ |>.cons _)).cons _ |>.cons _)
 ·refine .cons ⟨rfl,rot_next _ _⟩ (.cons ⟨rfl,Rot.refl _⟩ (.cons ⟨rfl,?_⟩ (.cons ⟨rfl,Rot.refl _⟩ (.cons ⟨rfl,rot_next _ _⟩ (.cons ⟨rfl,Rot.refl _⟩ .nil)))))
  exact ⟨[wpt (-1) (-1) (-1)],[wpt 1 (-1) (-1),wpt 1 (-1) 1,wpt (-1) (-1) 1],rfl,rfl⟩
theorem worldR_cell:CellOK worldR:=by
 refine ⟨⟨fun s hs v hv=>?_⟩,cellB_ok (by decide +kernel)⟩
 have:worldR.all (fun s=>s.2.all canB)=true:=by decide +kernel
 exact canB_ok (List.all_eq_true.1 (List.all_eq_true.1 this s hs) v hv)
theorem cutR_ok (ps:List Pl):CellOK (cutR ps)∧RC (cutR ps) (cutP ps):=by
 have key:∀ (ps:List Pl) (c d:PCell),CellOK c→CellOK d→RC c d→CellOK (ps.foldl cutStepR c)∧RC (ps.foldl cutStepR c) (ps.foldl cutStep d):=by
  intro ps
  induction ps with
  | nil=>intro c d hc hd h;exact ⟨hc,h⟩
  | cons p ps ih =>
   intro c d hc hd h
   have k:=(h.spl hc hd p).1
   have o:=(splR_ok (b:=p) hc).1
   refine ih (cutStepR c p) (cutStep d p) ?_ (cutStep_ok hd) ?_
   ·unfold cutStepR
    by_cases q:(splitR p c).1=[]
    ·rw[if_pos q];exact hc
    ·rw[if_neg q];exact o.resolve_left q
   ·unfold cutStepR cutStep
    by_cases q:(splitR p c).1=[]
    ·rw[if_pos q,if_pos (k.nil_iff.1 q)];exact h
    ·rw[if_neg q,if_neg (fun e=>q (k.nil_iff.2 e))];exact k
 exact key ps worldR worldP worldR_cell world_cell world_rc
end Go.Sx
