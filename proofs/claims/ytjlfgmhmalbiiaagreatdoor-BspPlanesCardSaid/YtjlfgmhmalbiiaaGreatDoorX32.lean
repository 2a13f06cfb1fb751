import Derived.Test.YtjlfgmhmalbiiaaGreatDoorX31
set_option linter.all false
set_option maxHeartbeats 40000000
open Bool renaming or_false → Ai, or_assoc → Ao, false_or → Ap, true_or → Aq, or_true → Ar
open Int renaming neg_neg → Ag, mul_ne_zero → Am
open List renaming getElem_mem → Ab, take_succ_eq_append_getElem → Ac, map_append → Ad, length_map → Af, any_append → An
open Nat renaming reduceAdd → Aa, le_succ_of_le → Ae, zero_le → Al
open Rat renaming intCast_natCast → Ah, mul_inv_cancel → Aj, mul_comm → Ak, div_def → As
namespace Go.Proofs.Vx
open Go Go.Sx Go.Proofs Tryz
attribute [local irreducible] fnT CallOK CallFr AW aK callV aL aJ aI aM gcaseP hid
theorem c5d:plT prog 103=some [(0,3),(3,3),(6,3)]:=by kernel_rfl
attribute [go_sem] c5d
theorem c29z (p:Pt) (h:BPt 268435456 p):CallOK prog 29 [.agg (eP p)] [] (.agg (eP (nrm p.x p.y p.z p.w))) []:=by
 have:=c29 (Zn p.x) (Zn p.y) (Zn p.z) (Zn p.w) (Zm p.x) (Zm p.y) (Zm p.z) (Zm p.w) h.out.a h.out.b h.out.c h.out.d
 rwa [bB,bB,bB,bB]at this
theorem c29c (p:Pt) (hc:CanP p) (h:BPt 268435456 p):CallOK prog 29 [.agg (eP p)] [] (.agg (eP p)) []:=by
 have:=c29z p h
 rwa [a9j hc]at this
theorem c44z (x y z w:Int) (h:Bs 268435456 x y z w) (h0:¬ (x=0∧y=0∧z=0)):CallOK prog 44 [.agg (e4 x y z w)] [] (.tup [.agg (eH (kY x y z w)),.lit (.bool true)]) []:=by
 have:=c44a (Zn x) (Zn y) (Zn z) (Zn w) (Zm x) (Zm y) (Zm z) (Zm w) h.a h.b h.c h.d (by rw[bB,bB,bB];exact h0)
 rwa [bB,bB,bB,bB]at this
theorem xX {z:Int} {k:Nat} (h:(Zm z).size≤k) (hk:1≤k):Qs k (z:Rat):=⟨h,by show (nb 1).size≤_;rw[kI];exact hk⟩
theorem vG:CallOK prog 87 [.lit (.int .i64 1)] [] (.agg (eZ 1)) []:=c87 1 (by decide) (by decide)
theorem a2h {a b:Geo.V} {k l:Nat} (ha:QV k a) (hb:QV l b):Qs (3*(k+l)+2) (Geo.dot a b):=(((ha.x.mul hb.x).add (ha.y.mul hb.y)).add (ha.z.mul hb.z)).mono (by omega)
theorem c6g {a:Geo.V} {t:Rat} {k l:Nat} (ha:QV k a) (ht:Qs l t):QV (k+l) (t*a):=⟨by rw[show (t*a:Geo.V).x=a.x*t from Ak _ _];exact ha.x.mul ht,by rw[show (t*a:Geo.V).y=a.y*t from Ak _ _];exact ha.y.mul ht,by rw[show (t*a:Geo.V).z=a.z*t from Ak _ _];exact ha.z.mul ht⟩
theorem a2c (a:Rat):(a.num:Rat) / (a.den:Rat)=a:=by
 have:=Rat.divInt_eq_div a.num (a.den:Int)
 rw[Rat.num_divInt_den,Ah]at this
 exact this.symm
theorem mkR (a b c:Rat):nrm (a.num*((b.den:Int)*(c.den:Int))) (b.num*((a.den:Int)*(c.den:Int))) (c.num*((a.den:Int)*(b.den:Int))) ((a.den:Int)*(b.den:Int)*(c.den:Int))=mkP a b c:=by
 have ha:=fP a
 have hb:=fP b
 have hc:=fP c
 refine l7 (zQ _ _ _ _) (a1h _ _ _) ?_
 rw[a1s,a1r (Am (Am ha hb) hc)]
 have qa:(a.den:Rat)≠0:=by have:=a.den_nz;exact_mod_cast this
 have qb:(b.den:Rat)≠0:=by have:=b.den_nz;exact_mod_cast this
 have qc:(c.den:Rat)≠0:=by have:=c.den_nz;exact_mod_cast this
 have ea:=a2c a
 have eb:=a2c b
 have ec:=a2c c
 generalize (a.num:Int)=an at *
 generalize (b.num:Int)=bn at *
 generalize (c.num:Int)=cn at *
 apply Geo.V.ext<;>simp only[Rat.intCast_mul,Ah]
 ·conv=>rhs;rw[← ea]
  grind
 ·conv=>rhs;rw[← eb]
  grind
 ·conv=>rhs;rw[← ec]
  grind
theorem sQ (p:Pt) (hc:CanP p) (hb:BPt 268435456 p):CallOK prog 128 [.agg (eP p)] [] (.agg (eV (tv p).x (tv p).y (tv p).z)) []:=by
 refine zs func128 40 [.cell 2 103] results128 ?_
 simp only[aD,Aa]
 have c29v:=c29c p hc hb
 have hw:=hc.w
 have hx:=lB p.x p.w hb.out.a hb.out.d (by omega)
 have hy:=lB p.y p.w hb.out.b hb.out.d (by omega)
 have hz:=lB p.z p.w hb.out.c hb.out.d (by omega)
 rw[(l8 p).1]at hx
 rw[(l8 p).2.1]at hy
 rw[(l8 p).2.2]at hz
 clear hc hb hw
 generalize tv p=t at *
 exact z1
theorem c130 (a b c:Rat) (ha:Qs 67108864 a) (hb:Qs 67108864 b) (hc:Qs 67108864 c):CallOK prog 130 [.agg (eV a b c)] [] (.agg (eP (mkP a b c))) []:=by
 refine zs func130 49 [.cell 2 51] results130 ?_
 simp only[aD,Aa]
 have s1:=ha.num
 have s2:=ha.den'
 have s3:=hb.num
 have s4:=hb.den'
 have s5:=hc.num
 have s6:=hc.den'
 have t1:=aP _ _ s4 s6
 have t2:=aP _ _ s2 s6
 have t3:=aP _ _ s2 s4
 have u1:=aP _ _ s1 t1
 have u2:=aP _ _ s3 t2
 have u3:=aP _ _ s5 t3
 have u4:=aP _ _ t3 s6
 have c29v:=c29z ⟨a.num*((b.den:Int)*(c.den:Int)),b.num*((a.den:Int)*(c.den:Int)),c.num*((a.den:Int)*(b.den:Int)),(a.den:Int)*(b.den:Int)*(c.den:Int)⟩ ⟨⟨by dsimp only;omega,by dsimp only;omega,by dsimp only;omega,by dsimp only;omega⟩⟩
 dsimp only at c29v
 rw[mkR]at c29v
 try have zh0:=(pH a ha)
 try have zh1:=(pH b hb)
 try have zh2:=(pH c hc)
 try have zh3:=(cU ((b.den:Int)) ((c.den:Int)) (by omega) (by omega))
 try have zh4:=(cU ((a.den:Int)) ((c.den:Int)) (by omega) (by omega))
 try have zh5:=(cU ((a.den:Int)) ((b.den:Int)) (by omega) (by omega))
 try have zh6:=(cU (a.num) ((b.den:Int)*(c.den:Int)) (by omega) (by omega))
 try have zh7:=(cU (b.num) ((a.den:Int)*(c.den:Int)) (by omega) (by omega))
 try have zh8:=(cU (c.num) ((a.den:Int)*(b.den:Int)) (by omega) (by omega))
 try have zh9:=(cU ((a.den:Int)*(b.den:Int)) ((c.den:Int)) (by omega) (by omega))
 exact z1
theorem c270 (z:Int) (h:(Zm z).size≤268435456):CallOK prog 270 [.agg (eZ z)] [] (.agg (eQ (z:Rat))) []:=by
 refine zs func270 12 [.cell 2 41] results270 ?_
 simp only[aD,Aa]
 have s2:(Zm 1).size≤8:=by rw[bX];decide
 repeat'(first|refine zk ?_|(refine zu ?_ ?_<;>intro hc)|(refine zf vG ?_)|(refine callV.flat (.tup [.agg (eQ (z:Rat)),.lit (.bool true)]) qI (by have:=lB z 1 (by omega) (by omega) (by decide);rw[b2h z]at this;exact this) rfl rfl ?_)|(refine zv ?_ ?_<;>intro hg)|omega|simp -dsimp (disch:=try exact zo)only[go_sem]|contradiction|rfl)
theorem c211 (u v:Geo.V) (hu:QV 33554432 u) (hv:QV 33554432 v):CallOK prog 211 [.agg (eV u.x u.y u.z),.agg (eV v.x v.y v.z)] [] (.agg (eV (u.x - v.x) (u.y - v.y) (u.z - v.z))) []:=by
 refine zs func211 21 [.cell 4 103] results211 ?_
 simp only[aD,Aa]
 obtain⟨u1,u2,u3⟩:=hu.mono (show 33554432≤67108864 by decide)
 obtain⟨v1,v2,v3⟩:=hv.mono (show 33554432≤67108864 by decide)
 clear hu hv
 repeat'(first|refine zk ?_|(refine zu ?_ ?_<;>intro hc)|(refine zf (sM _ (by assumption) _ (by assumption)) ?_)|(refine zv ?_ ?_<;>intro hg)|omega|simp -dsimp (disch:=try exact zo)only[go_sem]|contradiction|rfl)
theorem c263 (u v:Geo.V) (hu:QV 33554432 u) (hv:QV 33554432 v):CallOK prog 263 [.agg (eV u.x u.y u.z),.agg (eV v.x v.y v.z)] [] (.agg (eV (u.x+v.x) (u.y+v.y) (u.z+v.z))) []:=by
 refine zs func263 21 [.cell 4 103] results263 ?_
 simp only[aD,Aa]
 obtain⟨u1,u2,u3⟩:=hu.mono (show 33554432≤67108864 by decide)
 obtain⟨v1,v2,v3⟩:=hv.mono (show 33554432≤67108864 by decide)
 clear hu hv
 repeat'(first|refine zk ?_|(refine zu ?_ ?_<;>intro hc)|(refine zf (c64 _ (by assumption) _ (by assumption)) ?_)|(refine zv ?_ ?_<;>intro hg)|omega|simp -dsimp (disch:=try exact zo)only[go_sem]|contradiction|rfl)
theorem c264 (u:Geo.V) (t:Rat) (hu:QV 33554432 u) (ht:Qs 33554432 t):CallOK prog 264 [.agg (eV u.x u.y u.z),.agg (eQ t)] [] (.agg (eV (u.x*t) (u.y*t) (u.z*t))) []:=by
 refine zs func264 18 [.cell 4 103] results264 ?_
 simp only[aD,Aa]
 obtain⟨u1,u2,u3⟩:=hu.mono (show 33554432≤67108864 by decide)
 have h2:=ht.mono (show 33554432≤67108864 by decide)
 clear hu ht
 repeat'(first|refine zk ?_|(refine zu ?_ ?_<;>intro hc)|(refine zf (sN _ (by assumption) _ (by assumption)) ?_)|(refine zv ?_ ?_<;>intro hg)|omega|simp -dsimp (disch:=try exact zo)only[go_sem]|contradiction|rfl)
theorem c262 (p q:Pt) (hp:CanP p) (hq:CanP q) (bp:BPt 33554432 p) (bq:BPt 33554432 q):CallOK prog 262 [.agg (eP p),.agg (eP q)] [] (.agg (eV (tv p - tv q).x (tv p - tv q).y (tv p - tv q).z)) []:=by
 refine zs func262 27 [.cell 4 103] results262 ?_
 simp only[aD,Aa]
 have cp:=sQ p hp (bp.mono (by decide))
 have cq:=sQ q hq (bq.mono (by decide))
 obtain⟨u1,u2,u3⟩:=(gZ hp bp).mono (show 33554432≤67108864 by decide)
 obtain⟨v1,v2,v3⟩:=(gZ hq bq).mono (show 33554432≤67108864 by decide)
 simp only[Geo.cO,Geo.cN,Geo.cM]
 clear hp hq bp bq
 generalize tv p=s at *
 generalize tv q=t at *
 repeat'(first|refine zk ?_|(refine zu ?_ ?_<;>intro hc)|(first|refine zf cp ?_|refine zf cq ?_)|(refine zf (sM _ (by assumption) _ (by assumption)) ?_)|(refine zv ?_ ?_<;>intro hg)|omega|simp -dsimp (disch:=try exact zo)only[go_sem]|contradiction|rfl)
theorem c131 (u v:Geo.V) (hu:QV 8388608 u) (hv:QV 8388608 v):CallOK prog 131 [.agg (eV u.x u.y u.z),.agg (eV v.x v.y v.z)] [] (.agg (eQ (Geo.dot u v))) []:=by
 refine zs func131 22 [.cell 4 41] results131 ?_
 simp only[aD,Aa]
 obtain⟨u1,u2,u3⟩:=hu.mono (show 8388608≤67108864 by decide)
 obtain⟨v1,v2,v3⟩:=hv.mono (show 8388608≤67108864 by decide)
 have p1:=(hu.x.mul hv.x).mono (show 8388608+8388608≤67108864 by decide)
 have p2:=(hu.y.mul hv.y).mono (show 8388608+8388608≤67108864 by decide)
 have p3:=(hu.z.mul hv.z).mono (show 8388608+8388608≤67108864 by decide)
 have q1:=((hu.x.mul hv.x).add (hu.y.mul hv.y)).mono (show 8388608+8388608+(8388608+8388608)+1≤67108864 by decide)
 unfold Geo.dot
 clear hu hv
 repeat'(first|refine zk ?_|(refine zu ?_ ?_<;>intro hc)|(refine zf (sN _ (by assumption) _ (by assumption)) ?_)|(refine zf (c64 _ (by assumption) _ (by assumption)) ?_)|(refine zv ?_ ?_<;>intro hg)|omega|simp -dsimp (disch:=try exact zo)only[go_sem]|contradiction|rfl)
theorem c261 (p:Pl) (hp:BPl 268435456 p):CallOK prog 261 [.agg (eH p)] [] (.tup [.agg (eV (tH p).n.x (tH p).n.y (tH p).n.z),.agg (eQ (tH p).d)]) []:=by
 refine zs func261 17 [.cell 2 103,.cell 3 41] results261 ?_
 simp only[aD,Aa]
 obtain⟨⟨ha,hb,hc,hd⟩⟩:=hp
 unfold tH
 try have zh0:=(c270 p.a ha)
 try have zh1:=(c270 p.b hb)
 try have zh2:=(c270 p.c hc)
 try have zh3:=(c270 p.d hd)
 exact z1
theorem pl_qs {p:Pl} {k:Nat} (h:BPl k p) (hk:1≤k):QV k (tH p).n∧Qs k (tH p).d:=⟨⟨xX h.out.a hk,xX h.out.b hk,xX h.out.c hk⟩,xX h.out.d hk⟩
theorem meetR {p : Pl} {a b : Pt} (ha : CanP a) (hb : CanP b) (h : aC p a * aC p b < 0) :
  Geo.dot (tH p).n (tv b - tv a)≠0∧mkP ((tv a).x+(tv b - tv a).x*(((tH p).d - Geo.dot (tH p).n (tv a)) / Geo.dot (tH p).n (tv b - tv a))) ((tv a).y+(tv b - tv a).y*(((tH p).d - Geo.dot (tH p).n (tv a)) / Geo.dot (tH p).n (tv b - tv a))) ((tv a).z+(tv b - tv a).z*(((tH p).d - Geo.dot (tH p).n (tv a)) / Geo.dot (tH p).n (tv b - tv a)))=bT p a b:=by
 have h1:=(a1e ha.w hb.w).1 h
 have e1:Geo.dot (tH p).n (tv b - tv a)=(tH p).at (tv b) - (tH p).at (tv a):=Geo.bG _ _ _
 have e2:(tH p).d - Geo.dot (tH p).n (tv a)=- (tH p).at (tv a):=by unfold Geo.H.at;grind
 have hne:(tH p).at (tv b) - (tH p).at (tv a)≠0:=by
  intro e
  have e3:(tH p).at (tv b)=(tH p).at (tv a):=by grind
  rw[e3]at h1
  have:=Geo.j4 ((tH p).at (tv a))
  grind
 refine⟨by rw[e1];exact hne,?_⟩
 refine l7 (a1h _ _ _) (a7g _ _ _) ?_
 rw[a1s,a9p ha.w hb.w h,e1,e2]
 unfold Geo.X
 have e4:-(tH p).at (tv a) / ((tH p).at (tv b) - (tH p).at (tv a))=(tH p).at (tv a) / ((tH p).at (tv a) - (tH p).at (tv b)):=by
  generalize (tH p).at (tv a)=x at *
  generalize (tH p).at (tv b)=y at *
  have:x - y≠0:=by grind
  rw[As,As]
  have k1:=Aj _ hne
  have k2:=Aj _ this
  grind
 rw[e4]
 apply Geo.V.ext<;>simp only[Geo.bU,Geo.gF,Geo.gE,Geo.gD,Geo.dH,Geo.dG,Geo.dF]<;>grind
theorem c247 (p:Pl) (a b:Pt) (hp:BPl 1048576 p) (ha:CanP a) (hb:CanP b) (ba:BPt 1048576 a) (bb:BPt 1048576 b) (h:aC p a*aC p b<0):CallOK prog 247 [.agg (eH p),.agg (eP a),.agg (eP b)] [] (.tup [.agg (eP (bT p a b)),.lit (.bool true)]) []:=by
 refine zs func247 47 [.cell 6 51,.tmp 7] results247 ?_
 simp only[aD,Aa]
 obtain⟨hne,hm⟩:=meetR ha hb h
 have cn:=c261 p (hp.mono (by decide))
 have ca:=sQ a ha (ba.mono (by decide))
 have cw:=c262 b a hb ha (bb.mono (by decide)) (ba.mono (by decide))
 obtain⟨qn,qd⟩:=pl_qs hp (by decide)
 have qa:=gZ ha ba
 have qw:=uO (gZ hb bb) qa
 have c1:=c131 (tH p).n (tv b - tv a) (qn.mono (by decide)) (qw.mono (by decide))
 have c2:=c131 (tH p).n (tv a) (qn.mono (by decide)) (qa.mono (by decide))
 have q1:=a2h qn qw
 have q2:=a2h qn qa
 have q3:=qd.sub q2
 have q4:=q3.div q1 hne
 have q5:=c6g qw q4
 have cs:=c63 _ (q1.mono (show _≤67108864 by decide))
 have cd:=sM (tH p).d (qd.mono (by decide)) _ (q2.mono (show _≤67108864 by decide))
 have ct:=c129 _ (q3.mono (show _≤67108864 by decide)) _ (q1.mono (show _≤67108864 by decide)) hne
 have cm:=c264 (tv b - tv a) _ (qw.mono (by decide)) (q4.mono (show _≤33554432 by decide))
 have q6:QV 33554432 ⟨(tv b - tv a).x*(((tH p).d - Geo.dot (tH p).n (tv a)) / Geo.dot (tH p).n (tv b - tv a)),(tv b - tv a).y*(((tH p).d - Geo.dot (tH p).n (tv a)) / Geo.dot (tH p).n (tv b - tv a)),(tv b - tv a).z*(((tH p).d - Geo.dot (tH p).n (tv a)) / Geo.dot (tH p).n (tv b - tv a))⟩:=⟨(qw.x.mul q4).mono (by decide),(qw.y.mul q4).mono (by decide),(qw.z.mul q4).mono (by decide)⟩
 have cp:=c263 (tv a) _ (qa.mono (by decide)) q6
 have q7:=a2n qa q6
 have co:=c130 _ _ _ (q7.x.mono (show _≤67108864 by decide)) (q7.y.mono (show _≤67108864 by decide)) (q7.z.mono (show _≤67108864 by decide))
 simp only[Geo.gF,Geo.gE,Geo.gD]at co
 rw[hm]at co
 dsimp only at cp
 have k0:(sg (Geo.dot (tH p).n (tv b - tv a)).num=0)=False:=eq_false fun e=>hne (Rat.num_eq_zero.1 (gN.1 e))
 clear q1 q2 q3 q4 q5 q6 q7 qn qd qa qw hne hm ha hb ba bb hp h
 generalize ((tH p).d - Geo.dot (tH p).n (tv a)) / Geo.dot (tH p).n (tv b - tv a)=T at *
 generalize (tH p).d - Geo.dot (tH p).n (tv a)=D at *
 generalize Geo.dot (tH p).n (tv b - tv a)=B at *
 generalize Geo.dot (tH p).n (tv a)=E at *
 generalize tv b - tv a=W at *
 generalize tv a=A at *
 generalize tH p=H at *
 generalize bT p a b=M at *
 exact z1
theorem c50 (p:Pl) (x:Pt) (hp:BPl 268435456 p) (hx:BPt 268435456 x):CallOK prog 50 [.agg (eH p),.agg (eP x)] [] (.lit (.int .i64 (aC p x))) []:=by
 refine zs func50 35 [.tmp 4] results50 ?_
 simp only[aD,Aa]
 obtain⟨⟨s1,s2,s3,s4⟩⟩:=hp
 obtain⟨⟨r1,r2,r3,r4⟩⟩:=hx
 have t1:=aP p.d x.w s4 r4
 have t2:=aP p.a x.x s1 r1
 have t3:=aP p.b x.y s2 r2
 have t4:=aP p.c x.z s3 r3
 rw[← iS (p.d*x.w)]at t1
 have u1:=gY _ _ t1 t2
 have u2:=gY _ _ u1 (Ae t3)
 have u3:=gY _ _ u2 (Ae (Ae t4))
 have t0:(Zm (p.d*x.w)).size≤536870912:=by rw[← iS];exact t1
 have e:aC p x=sg (-(p.d*x.w)+p.a*x.x+p.b*x.y+p.c*x.z):=by
  unfold aC abv
  congr 1
  omega
 rw[e]
 try have zh0:=(cU (p.d) (x.w) (by omega) (by omega))
 try have zh1:=(cU (p.a) (x.x) (by omega) (by omega))
 try have zh2:=(cU (p.b) (x.y) (by omega) (by omega))
 try have zh3:=(cU (p.c) (x.z) (by omega) (by omega))
 try have zh4:=(pF (p.d*x.w) (by omega))
 try have zh5:=(vI (-(p.d*x.w)) (p.a*x.x) (by omega) (by omega))
 try have zh6:=(vI (-(p.d*x.w)+p.a*x.x) (p.b*x.y) (by omega) (by omega))
 try have zh7:=(vI (-(p.d*x.w)+p.a*x.x+p.b*x.y) (p.c*x.z) (by omega) (by omega))
 try have zh8:=(c86w (-(p.d*x.w)+p.a*x.x+p.b*x.y+p.c*x.z) (by omega))
 exact z1
theorem c51 (p:Pl) (hp:BPl 268435456 p):CallOK prog 51 [.agg (eH p)] [] (.agg (eH (aY p))) []:=by
 refine zs func51 16 [.cell 2 26] results51 ?_
 simp only[aD,Aa]
 obtain⟨⟨s1,s2,s3,s4⟩⟩:=hp
 unfold aY
 try have zh0:=(pF p.a (by omega))
 try have zh1:=(pF p.b (by omega))
 try have zh2:=(pF p.c (by omega))
 try have zh3:=(pF p.d (by omega))
 exact z1
end Go.Proofs.Vx
namespace Go.Proofs.Vx
open Go Go.Sx Go.Proofs Tryz
attribute [local irreducible] fnT CallOK CallFr AW aK callV aL aJ aI aM gcaseP hid
theorem b9j (b:Pl) (l:aE) (i:Nat) (h:i<l.length):bD b (l.take (i+1))=(bD b (l.take i)||l[i].2.any (fun v=>decide (aC b v<0))):=by
 unfold bD
 rw[Ac h,An]
 simp
theorem b8t (b:Pl) (l:aE) (i:Nat) (h:i<l.length):bC b (l.take (i+1))=(bC b (l.take i)||l[i].2.any (fun v=>decide (0<aC b v))):=by
 unfold bC
 rw[Ac h,An]
 simp
theorem c162 (l:aE) (b:Pl) (hb:BPl 268435456 b) (hn:l.length≤1048576) (hv:∀ s∈l,s.2.length≤268435456∧∀ v∈s.2,BPt 268435456 v):CallOK prog 162 [.agg [.sl (eS l)],.agg (eH b)] [] (.tup [.lit (.bool (bD b l)),.lit (.bool (bC b l))]) []:=by
 refine zs func162 52 [.tmp 4,.tmp 5] results162 ?_
 simp only[aD,Aa]
 have hml:maxLen=9223372036854775807:=rfl
 have hl:(eS l).length=l.length:=Af _
 have hz1:bD b []=false:=rfl
 have hz2:bC b []=false:=rfl
 repeat'(first|refine zk ?_|(refine zu ?_ ?_<;>intro hc)|(refine zv ?_ ?_<;>intro hg)|omega|simp -dsimp (disch:=try exact zo)only[go_sem,hl]|contradiction|rfl)
 refine AW.loop (fun z:{i:Nat // i≤l.length}=>⟨[(8,.lit (.int .i64 z.1)),(6,.lit (.bool (bD b (l.take z.1)))),(7,.lit (.bool (bC b (l.take z.1)))),(2,.loc 8 0),(3,.loc 9 0)],[(8,.blk [.sl (eS l)]),(9,.blk (eH b))],60⟩) (fun z=>l.length - z.1) ⟨0,Al _⟩ zw ?_
 rintro⟨i,hi⟩
 dsimp only
 by_cases hlt:i<l.length
 ·have es1:=qU l i hlt
  have hS1:=b9j b l i hlt
  have hS2:=b8t b l i hlt
  obtain⟨hvn,hvb⟩:=hv _ (Ab hlt)
  generalize hq:l[i]=sd at *
  obtain⟨sp,svs⟩:=sd
  dsimp only at es1 hS1 hS2 hvn hvb
  have hvl:(svs.map eP).length=svs.length:=Af _
  generalize bD b (l.take i)=B0 at *
  generalize bC b (l.take i)=F0 at *
  simp only[eG]at es1
  clear hv hq
  repeat'(first|refine zk ?_|(refine zu ?_ ?_<;>intro hc)|(refine zv ?_ ?_<;>intro hg)|omega|simp -dsimp (disch:=try exact zo)only[go_sem,hl]|contradiction|rfl)
  refine AW.loop (fun z:{j:Nat // j≤svs.length}=>⟨[(9,.lit (.int .i64 z.1)),(8,.lit (.int .i64 i)),(6,.lit (.bool (B0||cV (fun v=>decide (aC b v<0)) svs z.1))),(7,.lit (.bool (F0||cV (fun v=>decide (0<aC b v)) svs z.1))),(2,.loc 8 0),(3,.loc 9 0)],[(8,.blk [.sl (eS l)]),(9,.blk (eH b))],80⟩) (fun z=>svs.length - z.1) ⟨0,Al _⟩ (aR (by refine⟨?_,?_,?_,?_⟩<;>simp -dsimp (disch:=try exact zo)only[go_sem,wR,Ai,ZC])) ?_
  rintro⟨j,hj⟩
  dsimp only
  by_cases hjt:j<svs.length
  ·have ea:=eD svs j hjt
   have hsb0:=m0 (fun v=>decide (aC b v<0)) svs j hjt
   have hsf0:=m0 (fun v=>decide (0<aC b v)) svs j hjt
   have ca:=c50 b svs[j] hb (hvb _ (Ab hjt))
   have cb:True:=trivial
   clear hvb hS1 hS2
   generalize svs[j]=a at *
   have hsb:(B0||cV (fun v=>decide (aC b v<0)) svs (j+1))=((B0||cV (fun v=>decide (aC b v<0)) svs j)||decide (aC b a<0)):=by rw[hsb0,Ao]
   have hsf:(F0||cV (fun v=>decide (0<aC b v)) svs (j+1))=((F0||cV (fun v=>decide (0<aC b v)) svs j)||decide (0<aC b a)):=by rw[hsf0,Ao]
   generalize (B0||cV (fun v=>decide (aC b v<0)) svs j)=bb at *
   generalize (F0||cV (fun v=>decide (0<aC b v)) svs j)=ff at *
   clear hsb0 hsf0
   simp only[eP,e4]at ea
   generalize aC b a=sv at *
   by_cases q1:sv<0<;>by_cases q2:0<sv
   ·omega
   all_goals
    have k1:=(show (sv<0)=_∧(0<sv)=_ from⟨(by first|exact eq_true q1|exact eq_false q1),(by first|exact eq_true q2|exact eq_false q2)⟩)
    clear q1 q2
    obtain⟨k1,k2⟩:=k1
    simp only[k1,k2,decide_true,decide_false]at hsb hsf
    cases bb<;>cases ff<;>(try simp only[Aq,Ap,Ar,Ai]at hsb)<;>(try simp only[Aq,Ap,Ar,Ai]at hsf)
   all_goals
    repeat'(first|refine zk ?_|(refine zu ?_ ?_<;>intro hc)|(first|refine zf ca ?_|refine zf cb ?_)|(refine zv ?_ ?_<;>intro hg)|omega|simp -dsimp (disch:=try exact zo)only[go_sem,hl,es1,ea,k1,k2,ZT,zl,hvl]|contradiction|rfl)
   all_goals exact AW.stop ⟨⟨j+1,by omega⟩,zw,by dsimp only;omega⟩
  ·have hjl:j=svs.length:=by omega
   subst hjl
   rw[m9,m9,← hS1,← hS2]
   clear hvb
   repeat'(first|refine zk ?_|(refine zu ?_ ?_<;>intro hc)|(refine zv ?_ ?_<;>intro hg)|omega|simp -dsimp (disch:=try exact zo)only[go_sem,hl,es1,ZT,zl,hvl]|contradiction|rfl)
   all_goals exact AW.stop ⟨⟨i+1,by omega⟩,zw,by dsimp only;omega⟩
 ·have hil:i=l.length:=by omega
  subst hil
  rw[List.take_length]
  exact z1
theorem c214f (b:Pl) (vs:List Pt) (hn:vs.length≤268435456) (hcan:∀ v∈vs,CanP v) (hv:∀ v∈vs,BPt 1048576 v) (hb:BPl 1048576 b):CallFr prog 214 [.sl (vs.map eP),.agg (eH b)] 8 ((bF (-1) b vs).map eP):=by
 refine CallFr.flat func214 rfl 60 rfl rfl (oK _) [.tmp 4] (congrArg Array.toList results214) ?_
 simp only[aD,Aa]
 have hml:maxLen=9223372036854775807:=rfl
 have hl:(vs.map eP).length=vs.length:=Af _
 repeat'(first|refine zk ?_|(refine zu ?_ ?_<;>intro hc)|(refine zv ?_ ?_<;>intro hg)|omega|simp -dsimp (disch:=try exact zo)only[go_sem,hl]|contradiction|rfl)
 refine AW.loop (fun z:{i:Nat // i≤vs.length}=>⟨[(6,.lit (.int .i64 z.1)),(5,.ref 10 0 (aU (-1) b vs z.1).length (aU (-1) b vs z.1).length),(3,.loc 8 0),(0,.sl (vs.map eP))],[(8,.blk (eH b)),(10,.vec 8 ((aU (-1) b vs z.1).map eP))],60⟩) (fun z=>vs.length - z.1) ⟨0,Al _⟩ (aR (by refine⟨?_,?_,?_,?_⟩<;>simp -dsimp (disch:=try exact zo)only[go_sem,vV,List.map_nil,List.length_nil,ZC])) ?_
 rintro⟨i,hi⟩
 dsimp only
 by_cases hlt:i<vs.length
 ·have hmod:(i+1) % vs.length<vs.length:=Nat.mod_lt _ (by omega)
  have hm:((i:Int)+1) % (vs.length:Int)=(((i+1) % vs.length:Nat):Int):=by rw[Int.natCast_emod,Int.natCast_add];rfl
  have ea:=eD vs i hlt
  have ea2:=eD vs _ hmod
  have hW:=vW (-1) b vs i hlt
  have hWn:=vN (-1) b vs i
  have ha:=hv _ (Ab hlt)
  have ha2:=hv _ (Ab hmod)
  have haw:=hcan _ (Ab hlt)
  have ha2w:=hcan _ (Ab hmod)
  generalize vs[i]=a at *
  generalize vs[(i+1) % vs.length]=a2 at *
  generalize aU (-1) b vs i=W at *
  simp only[eP,e4]at ea ea2
  have hs1:aC b a≤0↔aC b a≠1:=by have:=a6x (abv b a);unfold aC;omega
  have ca:=c50 b a (hb.mono (by decide)) (ha.mono (by decide))
  have cb:=c50 b a2 (hb.mono (by decide)) (ha2.mono (by decide))
  clear hv hcan
  by_cases q2:aC b a≤0
  ·by_cases q3:aC b a*aC b a2<0
   ·skip
    have k2:(aC b a≤0)=True:=eq_true q2
    have k3:(aC b a*aC b a2<0)=True:=eq_true q3
    have hpc:pc (-1) b a a2=[a,bT b a a2]:=by unfold pc;rw[Ag,if_pos (hs1.1 q2),if_pos q3];rfl
    rw[hpc]at hW
    have hWl:(aU (-1) b vs (i+1)).length=W.length+1+1:=by rw[hW];simp
    have hWm:(aU (-1) b vs (i+1)).map eP=W.map eP++[eP (a),eP (bT b a a2)]:=by rw[hW];simp
    have cm:=c247 b a a2 hb haw ha2w ha ha2 q3
    clear hW hpc hs1 ha ha2 haw ha2w
    repeat'(first|refine zk ?_|(refine zu ?_ ?_<;>intro hc)|(first|refine zf ca ?_|refine zf cb ?_)|(refine zf cm ?_)|(refine zv ?_ ?_<;>intro hg)|omega|simp -dsimp (disch:=try exact zo)only[go_sem,hl,ea,ea2,k2,k3,hm,zl,eU,ZT,Ad]|contradiction|rfl)
    all_goals exact AW.stop ⟨⟨i+1,by omega⟩,(aR (by refine⟨?_,?_,?_,?_⟩<;>first|(simp -dsimp (disch:=try exact zo)only[go_sem,hWl,hWm,zl,ZC];done)|(simp -dsimp (disch:=try exact zo)only[go_sem,hWl,ZC];done))),by dsimp only;omega⟩
   ·skip
    have k2:(aC b a≤0)=True:=eq_true q2
    have k3:(aC b a*aC b a2<0)=False:=eq_false q3
    have hpc:pc (-1) b a a2=[a]:=by unfold pc;rw[Ag,if_pos (hs1.1 q2),if_neg q3];rfl
    rw[hpc]at hW
    have hWl:(aU (-1) b vs (i+1)).length=W.length+1:=by rw[hW];simp
    have hWm:(aU (-1) b vs (i+1)).map eP=W.map eP++[eP (a)]:=by rw[hW];simp
    have cm:True:=trivial
    clear hW hpc hs1 ha ha2 haw ha2w
    repeat'(first|refine zk ?_|(refine zu ?_ ?_<;>intro hc)|(first|refine zf ca ?_|refine zf cb ?_)|(refine zf cm ?_)|(refine zv ?_ ?_<;>intro hg)|omega|simp -dsimp (disch:=try exact zo)only[go_sem,hl,ea,ea2,k2,k3,hm,zl,eU,ZT,Ad]|contradiction|rfl)
    all_goals exact AW.stop ⟨⟨i+1,by omega⟩,(aR (by refine⟨?_,?_,?_,?_⟩<;>first|(simp -dsimp (disch:=try exact zo)only[go_sem,hWl,hWm,zl,ZC];done)|(simp -dsimp (disch:=try exact zo)only[go_sem,hWl,ZC];done))),by dsimp only;omega⟩
  ·by_cases q3:aC b a*aC b a2<0
   ·skip
    have k2:(aC b a≤0)=False:=eq_false q2
    have k3:(aC b a*aC b a2<0)=True:=eq_true q3
    have hpc:pc (-1) b a a2=[bT b a a2]:=by unfold pc;rw[Ag,if_neg (fun h=>q2 (hs1.2 h)),if_pos q3];rfl
    rw[hpc]at hW
    have hWl:(aU (-1) b vs (i+1)).length=W.length+1:=by rw[hW];simp
    have hWm:(aU (-1) b vs (i+1)).map eP=W.map eP++[eP (bT b a a2)]:=by rw[hW];simp
    have cm:=c247 b a a2 hb haw ha2w ha ha2 q3
    clear hW hpc hs1 ha ha2 haw ha2w
    repeat'(first|refine zk ?_|(refine zu ?_ ?_<;>intro hc)|(first|refine zf ca ?_|refine zf cb ?_)|(refine zf cm ?_)|(refine zv ?_ ?_<;>intro hg)|omega|simp -dsimp (disch:=try exact zo)only[go_sem,hl,ea,ea2,k2,k3,hm,zl,eU,ZT,Ad]|contradiction|rfl)
    all_goals exact AW.stop ⟨⟨i+1,by omega⟩,(aR (by refine⟨?_,?_,?_,?_⟩<;>first|(simp -dsimp (disch:=try exact zo)only[go_sem,hWl,hWm,zl,ZC];done)|(simp -dsimp (disch:=try exact zo)only[go_sem,hWl,ZC];done))),by dsimp only;omega⟩
   ·skip
    have k2:(aC b a≤0)=False:=eq_false q2
    have k3:(aC b a*aC b a2<0)=False:=eq_false q3
    have hpc:pc (-1) b a a2=[]:=by unfold pc;rw[Ag,if_neg (fun h=>q2 (hs1.2 h)),if_neg q3];rfl
    rw[hpc]at hW
    have hWl:(aU (-1) b vs (i+1)).length=W.length:=by rw[hW];simp
    have hWm:(aU (-1) b vs (i+1)).map eP=W.map eP:=by rw[hW];simp
    have cm:True:=trivial
    clear hW hpc hs1 ha ha2 haw ha2w
    repeat'(first|refine zk ?_|(refine zu ?_ ?_<;>intro hc)|(first|refine zf ca ?_|refine zf cb ?_)|(refine zf cm ?_)|(refine zv ?_ ?_<;>intro hg)|omega|simp -dsimp (disch:=try exact zo)only[go_sem,hl,ea,ea2,k2,k3,hm,zl,eU,ZT,Ad]|contradiction|rfl)
    all_goals exact AW.stop ⟨⟨i+1,by omega⟩,(aR (by refine⟨?_,?_,?_,?_⟩<;>first|(simp -dsimp (disch:=try exact zo)only[go_sem,hWl,hWm,zl,ZC];done)|(simp -dsimp (disch:=try exact zo)only[go_sem,hWl,ZC];done))),by dsimp only;omega⟩
 ·have hil:i=vs.length:=by omega
  subst hil
  rw[wJ]
  have hfin:True:=trivial
  repeat'(first|refine zj ?_|(refine zu ?_ ?_<;>intro hc)|(refine AW.ret (qY ?_);simp -dsimp (disch:=try exact zo)only[go_sem,hl,zl,hfin]<;>try (exact⟨_,rfl,rfl⟩))|(refine zv ?_ ?_<;>intro hg)|omega|simp -dsimp (disch:=try exact zo)only[go_sem,hl,zl,hfin]|contradiction)
theorem c214 (b:Pl) (vs:List Pt) (hn:vs.length≤268435456) (hcan:∀ v∈vs,CanP v) (hv:∀ v∈vs,BPt 1048576 v) (hb:BPl 1048576 b):CallOK prog 214 [.sl (vs.map eP),.agg (eH b)] [] (.sl ((bF (-1) b vs).map eP)) []:=(c214f b vs hn hcan hv hb).ok
end Go.Proofs.Vx
