import Derived.Test.YtjlfgmhmalbiiaaGreatDoorV30
set_option linter.all false
set_option maxHeartbeats 40000000
namespace Go.Proofs.Vx
open Go Go.Sx Go.Proofs Tryz
attribute [local irreducible] fnT CallOK CallFr AW aO callV aP aN aM aQ gcaseP hid
theorem b9s:plT prog 103=some [(0,3),(3,3),(6,3)]:=by kernel_rfl
attribute [go_sem] b9s
theorem c29z (p:Pt) (h:BPt 268435456 p):CallOK prog 29 [.agg (eP p)] [] (.agg (eP (nrm p.x p.y p.z p.w))) []:=by
 have:=c29 (Zn p.x) (Zn p.y) (Zn p.z) (Zn p.w) (Zm p.x) (Zm p.y) (Zm p.z) (Zm p.w) h.out.a h.out.b h.out.c h.out.d
 rwa [bB,bB,bB,bB]at this
theorem c29c (p:Pt) (hc:CanP p) (h:BPt 268435456 p):CallOK prog 29 [.agg (eP p)] [] (.agg (eP p)) []:=by
 have:=c29z p h
 rwa [a5d hc]at this
theorem c44z (x y z w:Int) (h:Bs 268435456 x y z w) (h0:¬ (x=0∧y=0∧z=0)):CallOK prog 44 [.agg (e4 x y z w)] [] (.tup [.agg (eH (j4 x y z w)),.lit (.bool true)]) []:=by
 have:=c44a (Zn x) (Zn y) (Zn z) (Zn w) (Zm x) (Zm y) (Zm z) (Zm w) h.a h.b h.c h.d (by rw[bB,bB,bB];exact h0)
 rwa [bB,bB,bB,bB]at this
theorem vN {z:Int} {k:Nat} (h:(Zm z).size≤k) (hk:1≤k):Qs k (z:Rat):=⟨h,by show (nb 1).size≤_;rw[sT];exact hk⟩
theorem tL:CallOK prog 87 [.lit (.int .i64 1)] [] (.agg (eZ 1)) []:=c87 1 (by decide) (by decide)
theorem zJ {a b:Geo.V} {k l:Nat} (ha:QV k a) (hb:QV l b):Qs (3*(k+l)+2) (Geo.dot a b):=(((ha.x.mul hb.x).add (ha.y.mul hb.y)).add (ha.z.mul hb.z)).mono (by omega)
theorem c0n {a:Geo.V} {t:Rat} {k l:Nat} (ha:QV k a) (ht:Qs l t):QV (k+l) (t*a):=⟨by rw[show (t*a:Geo.V).x=a.x*t from Rat.mul_comm _ _];exact ha.x.mul ht,by rw[show (t*a:Geo.V).y=a.y*t from Rat.mul_comm _ _];exact ha.y.mul ht,by rw[show (t*a:Geo.V).z=a.z*t from Rat.mul_comm _ _];exact ha.z.mul ht⟩
theorem zE (a:Rat):(a.num:Rat) / (a.den:Rat)=a:=by
 have:=Rat.divInt_eq_div a.num (a.den:Int)
 rw[Rat.num_divInt_den,Rat.intCast_natCast]at this
 exact this.symm
theorem mkR (a b c:Rat):nrm (a.num*((b.den:Int)*(c.den:Int))) (b.num*((a.den:Int)*(c.den:Int))) (c.num*((a.den:Int)*(b.den:Int))) ((a.den:Int)*(b.den:Int)*(c.den:Int))=mkP a b c:=by
 have ha:=fW a
 have hb:=fW b
 have hc:=fW c
 refine kT (xH _ _ _ _) (yR _ _ _) ?_
 rw[y9,y8 (Int.mul_ne_zero (Int.mul_ne_zero ha hb) hc)]
 have qa:(a.den:Rat)≠0:=by have:=a.den_nz;exact_mod_cast this
 have qb:(b.den:Rat)≠0:=by have:=b.den_nz;exact_mod_cast this
 have qc:(c.den:Rat)≠0:=by have:=c.den_nz;exact_mod_cast this
 have ea:=zE a
 have eb:=zE b
 have ec:=zE c
 generalize (a.num:Int)=an at *
 generalize (b.num:Int)=bn at *
 generalize (c.num:Int)=cn at *
 apply Geo.V.ext<;>simp only[Rat.intCast_mul,Rat.intCast_natCast]
 ·conv=>rhs;rw[← ea]
  grind
 ·conv=>rhs;rw[← eb]
  grind
 ·conv=>rhs;rw[← ec]
  grind
theorem rA (p:Pt) (hc:CanP p) (hb:BPt 268435456 p):CallOK prog 128 [.agg (eP p)] [] (.agg (eV (tv p).x (tv p).y (tv p).z)) []:=by
 refine zs func128 40 [.cell 2 103] results128 ?_
 simp only[aD,Nat.reduceAdd]
 have c29v:=c29c p hc hb
 have hw:=hc.w
 have hx:=lK p.x p.w hb.out.a hb.out.d (by omega)
 have hy:=lK p.y p.w hb.out.b hb.out.d (by omega)
 have hz:=lK p.z p.w hb.out.c hb.out.d (by omega)
 rw[(pN p).1]at hx
 rw[(pN p).2.1]at hy
 rw[(pN p).2.2]at hz
 clear hc hb hw
 generalize tv p=t at *
 repeat'(first|refine zg ?_|(refine zc ?_ ?_<;>intro hc<;>try simp only[NM]at hc)|refine zr ?_|(refine zf c29v ?_)|(first|refine zf hx ?_|refine zf hy ?_|refine zf hz ?_)|refine⟨by omega,?_⟩|(refine zb ?_ ?_<;>intro hg<;>(try rw[hg])<;>try simp only[NM]at hg)|omega|simp -dsimp (disch:=try exact zo)only[go_sem]|contradiction|rfl)
theorem c130 (a b c:Rat) (ha:Qs 67108864 a) (hb:Qs 67108864 b) (hc:Qs 67108864 c):CallOK prog 130 [.agg (eV a b c)] [] (.agg (eP (mkP a b c))) []:=by
 refine zs func130 49 [.cell 2 51] results130 ?_
 simp only[aD,Nat.reduceAdd]
 have s1:=ha.num
 have s2:=ha.den'
 have s3:=hb.num
 have s4:=hb.den'
 have s5:=hc.num
 have s6:=hc.den'
 have t1:=aR _ _ s4 s6
 have t2:=aR _ _ s2 s6
 have t3:=aR _ _ s2 s4
 have u1:=aR _ _ s1 t1
 have u2:=aR _ _ s3 t2
 have u3:=aR _ _ s5 t3
 have u4:=aR _ _ t3 s6
 have c29v:=c29z ⟨a.num*((b.den:Int)*(c.den:Int)),b.num*((a.den:Int)*(c.den:Int)),c.num*((a.den:Int)*(b.den:Int)),(a.den:Int)*(b.den:Int)*(c.den:Int)⟩ ⟨⟨by dsimp only;omega,by dsimp only;omega,by dsimp only;omega,by dsimp only;omega⟩⟩
 dsimp only at c29v
 rw[mkR]at c29v
 repeat'(first|refine zg ?_|(refine zc ?_ ?_<;>intro hc<;>try simp only[NM]at hc)|refine zr ?_|(first|refine zf (oF a ha) ?_|refine zf (oF b hb) ?_|refine zf (oF c hc) ?_)|(first|refine zf (cH ((b.den:Int)) ((c.den:Int)) (by omega) (by omega)) ?_|refine zf (cH ((a.den:Int)) ((c.den:Int)) (by omega) (by omega)) ?_|refine zf (cH ((a.den:Int)) ((b.den:Int)) (by omega) (by omega)) ?_|refine zf (cH (a.num) ((b.den:Int)*(c.den:Int)) (by omega) (by omega)) ?_|refine zf (cH (b.num) ((a.den:Int)*(c.den:Int)) (by omega) (by omega)) ?_|refine zf (cH (c.num) ((a.den:Int)*(b.den:Int)) (by omega) (by omega)) ?_|refine zf (cH ((a.den:Int)*(b.den:Int)) ((c.den:Int)) (by omega) (by omega)) ?_)|(refine zf c29v ?_)|refine⟨by omega,?_⟩|(refine zb ?_ ?_<;>intro hg<;>(try rw[hg])<;>try simp only[NM]at hg)|omega|simp -dsimp (disch:=try exact zo)only[go_sem]|contradiction|rfl)
theorem c270 (z:Int) (h:(Zm z).size≤268435456):CallOK prog 270 [.agg (eZ z)] [] (.agg (eQ (z:Rat))) []:=by
 refine zs func270 12 [.cell 2 41] results270 ?_
 simp only[aD,Nat.reduceAdd]
 have s2:(Zm 1).size≤8:=by rw[cI];decide
 repeat'(first|refine zg ?_|(refine zc ?_ ?_<;>intro hc<;>try simp only[NM]at hc)|refine zr ?_|(refine zf tL ?_)|(refine callV.flat (.tup [.agg (eQ (z:Rat)),.lit (.bool true)]) o9 (by have:=lK z 1 (by omega) (by omega) (by decide);rw[a8b z]at this;exact this) rfl rfl ?_)|refine⟨by omega,?_⟩|(refine zb ?_ ?_<;>intro hg<;>(try rw[hg])<;>try simp only[NM]at hg)|omega|simp -dsimp (disch:=try exact zo)only[go_sem]|contradiction|rfl)
theorem c211 (u v:Geo.V) (hu:QV 33554432 u) (hv:QV 33554432 v):CallOK prog 211 [.agg (eV u.x u.y u.z),.agg (eV v.x v.y v.z)] [] (.agg (eV (u.x - v.x) (u.y - v.y) (u.z - v.z))) []:=by
 refine zs func211 21 [.cell 4 103] results211 ?_
 simp only[aD,Nat.reduceAdd]
 obtain⟨u1,u2,u3⟩:=hu.mono (show 33554432≤67108864 by decide)
 obtain⟨v1,v2,v3⟩:=hv.mono (show 33554432≤67108864 by decide)
 clear hu hv
 repeat'(first|refine zg ?_|(refine zc ?_ ?_<;>intro hc<;>try simp only[NM]at hc)|refine zr ?_|(refine zf (qY _ (by assumption) _ (by assumption)) ?_)|refine⟨by omega,?_⟩|(refine zb ?_ ?_<;>intro hg<;>(try rw[hg])<;>try simp only[NM]at hg)|omega|simp -dsimp (disch:=try exact zo)only[go_sem]|contradiction|rfl)
theorem c263 (u v:Geo.V) (hu:QV 33554432 u) (hv:QV 33554432 v):CallOK prog 263 [.agg (eV u.x u.y u.z),.agg (eV v.x v.y v.z)] [] (.agg (eV (u.x+v.x) (u.y+v.y) (u.z+v.z))) []:=by
 refine zs func263 21 [.cell 4 103] results263 ?_
 simp only[aD,Nat.reduceAdd]
 obtain⟨u1,u2,u3⟩:=hu.mono (show 33554432≤67108864 by decide)
 obtain⟨v1,v2,v3⟩:=hv.mono (show 33554432≤67108864 by decide)
 clear hu hv
 repeat'(first|refine zg ?_|(refine zc ?_ ?_<;>intro hc<;>try simp only[NM]at hc)|refine zr ?_|(refine zf (c64 _ (by assumption) _ (by assumption)) ?_)|refine⟨by omega,?_⟩|(refine zb ?_ ?_<;>intro hg<;>(try rw[hg])<;>try simp only[NM]at hg)|omega|simp -dsimp (disch:=try exact zo)only[go_sem]|contradiction|rfl)
theorem c264 (u:Geo.V) (t:Rat) (hu:QV 33554432 u) (ht:Qs 33554432 t):CallOK prog 264 [.agg (eV u.x u.y u.z),.agg (eQ t)] [] (.agg (eV (u.x*t) (u.y*t) (u.z*t))) []:=by
 refine zs func264 18 [.cell 4 103] results264 ?_
 simp only[aD,Nat.reduceAdd]
 obtain⟨u1,u2,u3⟩:=hu.mono (show 33554432≤67108864 by decide)
 have h2:=ht.mono (show 33554432≤67108864 by decide)
 clear hu ht
 repeat'(first|refine zg ?_|(refine zc ?_ ?_<;>intro hc<;>try simp only[NM]at hc)|refine zr ?_|(refine zf (qZ _ (by assumption) _ (by assumption)) ?_)|refine⟨by omega,?_⟩|(refine zb ?_ ?_<;>intro hg<;>(try rw[hg])<;>try simp only[NM]at hg)|omega|simp -dsimp (disch:=try exact zo)only[go_sem]|contradiction|rfl)
theorem c262 (p q:Pt) (hp:CanP p) (hq:CanP q) (bp:BPt 33554432 p) (bq:BPt 33554432 q):CallOK prog 262 [.agg (eP p),.agg (eP q)] [] (.agg (eV (tv p - tv q).x (tv p - tv q).y (tv p - tv q).z)) []:=by
 refine zs func262 27 [.cell 4 103] results262 ?_
 simp only[aD,Nat.reduceAdd]
 have cp:=rA p hp (bp.mono (by decide))
 have cq:=rA q hq (bq.mono (by decide))
 obtain⟨u1,u2,u3⟩:=(nV hp bp).mono (show 33554432≤67108864 by decide)
 obtain⟨v1,v2,v3⟩:=(nV hq bq).mono (show 33554432≤67108864 by decide)
 simp only[Geo.dY,Geo.dT,Geo.dM]
 clear hp hq bp bq
 generalize tv p=s at *
 generalize tv q=t at *
 repeat'(first|refine zg ?_|(refine zc ?_ ?_<;>intro hc<;>try simp only[NM]at hc)|refine zr ?_|(first|refine zf cp ?_|refine zf cq ?_)|(refine zf (qY _ (by assumption) _ (by assumption)) ?_)|refine⟨by omega,?_⟩|(refine zb ?_ ?_<;>intro hg<;>(try rw[hg])<;>try simp only[NM]at hg)|omega|simp -dsimp (disch:=try exact zo)only[go_sem]|contradiction|rfl)
theorem c131 (u v:Geo.V) (hu:QV 8388608 u) (hv:QV 8388608 v):CallOK prog 131 [.agg (eV u.x u.y u.z),.agg (eV v.x v.y v.z)] [] (.agg (eQ (Geo.dot u v))) []:=by
 refine zs func131 22 [.cell 4 41] results131 ?_
 simp only[aD,Nat.reduceAdd]
 obtain⟨u1,u2,u3⟩:=hu.mono (show 8388608≤67108864 by decide)
 obtain⟨v1,v2,v3⟩:=hv.mono (show 8388608≤67108864 by decide)
 have p1:=(hu.x.mul hv.x).mono (show 8388608+8388608≤67108864 by decide)
 have p2:=(hu.y.mul hv.y).mono (show 8388608+8388608≤67108864 by decide)
 have p3:=(hu.z.mul hv.z).mono (show 8388608+8388608≤67108864 by decide)
 have q1:=((hu.x.mul hv.x).add (hu.y.mul hv.y)).mono (show 8388608+8388608+(8388608+8388608)+1≤67108864 by decide)
 unfold Geo.dot
 clear hu hv
 repeat'(first|refine zg ?_|(refine zc ?_ ?_<;>intro hc<;>try simp only[NM]at hc)|refine zr ?_|(refine zf (qZ _ (by assumption) _ (by assumption)) ?_)|(refine zf (c64 _ (by assumption) _ (by assumption)) ?_)|refine⟨by omega,?_⟩|(refine zb ?_ ?_<;>intro hg<;>(try rw[hg])<;>try simp only[NM]at hg)|omega|simp -dsimp (disch:=try exact zo)only[go_sem]|contradiction|rfl)
theorem c261 (p:Pl) (hp:BPl 268435456 p):CallOK prog 261 [.agg (eH p)] [] (.tup [.agg (eV (tH p).n.x (tH p).n.y (tH p).n.z),.agg (eQ (tH p).d)]) []:=by
 refine zs func261 17 [.cell 2 103,.cell 3 41] results261 ?_
 simp only[aD,Nat.reduceAdd]
 obtain⟨⟨ha,hb,hc,hd⟩⟩:=hp
 unfold tH
 repeat'(first|refine zg ?_|(refine zc ?_ ?_<;>intro hc<;>try simp only[NM]at hc)|refine zr ?_|(first|refine zf (c270 p.a ha) ?_|refine zf (c270 p.b hb) ?_|refine zf (c270 p.c hc) ?_|refine zf (c270 p.d hd) ?_)|refine⟨by omega,?_⟩|(refine zb ?_ ?_<;>intro hg<;>(try rw[hg])<;>try simp only[NM]at hg)|omega|simp -dsimp (disch:=try exact zo)only[go_sem]|contradiction|rfl)
theorem pl_qs {p:Pl} {k:Nat} (h:BPl k p) (hk:1≤k):QV k (tH p).n∧Qs k (tH p).d:=⟨⟨vN h.out.a hk,vN h.out.b hk,vN h.out.c hk⟩,vN h.out.d hk⟩
theorem meetR {p : Pl} {a b : Pt} (ha : CanP a) (hb : CanP b) (h : aB p a * aB p b < 0) :
  Geo.dot (tH p).n (tv b - tv a)≠0∧mkP ((tv a).x+(tv b - tv a).x*(((tH p).d - Geo.dot (tH p).n (tv a)) / Geo.dot (tH p).n (tv b - tv a))) ((tv a).y+(tv b - tv a).y*(((tH p).d - Geo.dot (tH p).n (tv a)) / Geo.dot (tH p).n (tv b - tv a))) ((tv a).z+(tv b - tv a).z*(((tH p).d - Geo.dot (tH p).n (tv a)) / Geo.dot (tH p).n (tv b - tv a)))=bW p a b:=by
 have h1:=(yO ha.w hb.w).1 h
 have e1:Geo.dot (tH p).n (tv b - tv a)=(tH p).at (tv b) - (tH p).at (tv a):=Geo.bF _ _ _
 have e2:(tH p).d - Geo.dot (tH p).n (tv a)=- (tH p).at (tv a):=by unfold Geo.H.at;grind
 have hne:(tH p).at (tv b) - (tH p).at (tv a)≠0:=by
  intro e
  have e3:(tH p).at (tv b)=(tH p).at (tv a):=by grind
  rw[e3]at h1
  have:=Geo.jJ ((tH p).at (tv a))
  grind
 refine⟨by rw[e1];exact hne,?_⟩
 refine kT (yR _ _ _) (a3l _ _ _) ?_
 rw[y9,a5j ha.w hb.w h,e1,e2]
 unfold Geo.X
 have e4:-(tH p).at (tv a) / ((tH p).at (tv b) - (tH p).at (tv a))=(tH p).at (tv a) / ((tH p).at (tv a) - (tH p).at (tv b)):=by
  generalize (tH p).at (tv a)=x at *
  generalize (tH p).at (tv b)=y at *
  have:x - y≠0:=by grind
  rw[Rat.div_def,Rat.div_def]
  have k1:=Rat.mul_inv_cancel _ hne
  have k2:=Rat.mul_inv_cancel _ this
  grind
 rw[e4]
 apply Geo.V.ext<;>simp only[Geo.bX,Geo.iE,Geo.iD,Geo.iC,Geo.eK,Geo.eJ,Geo.eF]<;>grind
theorem c247 (p:Pl) (a b:Pt) (hp:BPl 1048576 p) (ha:CanP a) (hb:CanP b) (ba:BPt 1048576 a) (bb:BPt 1048576 b) (h:aB p a*aB p b<0):CallOK prog 247 [.agg (eH p),.agg (eP a),.agg (eP b)] [] (.tup [.agg (eP (bW p a b)),.lit (.bool true)]) []:=by
 refine zs func247 47 [.cell 6 51,.tmp 7] results247 ?_
 simp only[aD,Nat.reduceAdd]
 obtain⟨hne,hm⟩:=meetR ha hb h
 have cn:=c261 p (hp.mono (by decide))
 have ca:=rA a ha (ba.mono (by decide))
 have cw:=c262 b a hb ha (bb.mono (by decide)) (ba.mono (by decide))
 obtain⟨qn,qd⟩:=pl_qs hp (by decide)
 have qa:=nV ha ba
 have qw:=zB (nV hb bb) qa
 have c1:=c131 (tH p).n (tv b - tv a) (qn.mono (by decide)) (qw.mono (by decide))
 have c2:=c131 (tH p).n (tv a) (qn.mono (by decide)) (qa.mono (by decide))
 have q1:=zJ qn qw
 have q2:=zJ qn qa
 have q3:=qd.sub q2
 have q4:=q3.div q1 hne
 have q5:=c0n qw q4
 have cs:=c63 _ (q1.mono (show _≤67108864 by decide))
 have cd:=qY (tH p).d (qd.mono (by decide)) _ (q2.mono (show _≤67108864 by decide))
 have ct:=c129 _ (q3.mono (show _≤67108864 by decide)) _ (q1.mono (show _≤67108864 by decide)) hne
 have cm:=c264 (tv b - tv a) _ (qw.mono (by decide)) (q4.mono (show _≤33554432 by decide))
 have q6:QV 33554432 ⟨(tv b - tv a).x*(((tH p).d - Geo.dot (tH p).n (tv a)) / Geo.dot (tH p).n (tv b - tv a)),(tv b - tv a).y*(((tH p).d - Geo.dot (tH p).n (tv a)) / Geo.dot (tH p).n (tv b - tv a)),(tv b - tv a).z*(((tH p).d - Geo.dot (tH p).n (tv a)) / Geo.dot (tH p).n (tv b - tv a))⟩:=⟨(qw.x.mul q4).mono (by decide),(qw.y.mul q4).mono (by decide),(qw.z.mul q4).mono (by decide)⟩
 have cp:=c263 (tv a) _ (qa.mono (by decide)) q6
 have q7:=c6h qa q6
 have co:=c130 _ _ _ (q7.x.mono (show _≤67108864 by decide)) (q7.y.mono (show _≤67108864 by decide)) (q7.z.mono (show _≤67108864 by decide))
 simp only[Geo.iE,Geo.iD,Geo.iC]at co
 rw[hm]at co
 dsimp only at cp
 have k0:(sg (Geo.dot (tH p).n (tv b - tv a)).num=0)=False:=eq_false fun e=>hne (Rat.num_eq_zero.1 (fT.1 e))
 clear q1 q2 q3 q4 q5 q6 q7 qn qd qa qw hne hm ha hb ba bb hp h
 generalize ((tH p).d - Geo.dot (tH p).n (tv a)) / Geo.dot (tH p).n (tv b - tv a)=T at *
 generalize (tH p).d - Geo.dot (tH p).n (tv a)=D at *
 generalize Geo.dot (tH p).n (tv b - tv a)=B at *
 generalize Geo.dot (tH p).n (tv a)=E at *
 generalize tv b - tv a=W at *
 generalize tv a=A at *
 generalize tH p=H at *
 generalize bW p a b=M at *
 repeat'(first|refine zg ?_|(refine zc ?_ ?_<;>intro hc<;>first|simp only[NM]at hc|omega|skip)|refine zr ?_|(refine zf cn ?_)|(refine zf cw ?_)|(first|refine zf c1 ?_|refine zf c2 ?_)|(refine zf cs ?_)|(refine zf ca ?_)|(refine zf cd ?_)|(refine zf ct ?_)|(refine zf cm ?_)|(refine zf cp ?_)|(refine zf co ?_)|refine⟨by omega,?_⟩|(refine zb ?_ ?_<;>intro hg<;>(try rw[hg])<;>try simp only[NM]at hg)|omega|simp -dsimp (disch:=try exact zo)only[go_sem,k0]|contradiction|rfl)
theorem c50 (p:Pl) (x:Pt) (hp:BPl 268435456 p) (hx:BPt 268435456 x):CallOK prog 50 [.agg (eH p),.agg (eP x)] [] (.lit (.int .i64 (aB p x))) []:=by
 refine zs func50 35 [.tmp 4] results50 ?_
 simp only[aD,Nat.reduceAdd]
 obtain⟨⟨s1,s2,s3,s4⟩⟩:=hp
 obtain⟨⟨r1,r2,r3,r4⟩⟩:=hx
 have t1:=aR p.d x.w s4 r4
 have t2:=aR p.a x.x s1 r1
 have t3:=aR p.b x.y s2 r2
 have t4:=aR p.c x.z s3 r3
 rw[← iN (p.d*x.w)]at t1
 have u1:=gH _ _ t1 t2
 have u2:=gH _ _ u1 (Nat.le_succ_of_le t3)
 have u3:=gH _ _ u2 (Nat.le_succ_of_le (Nat.le_succ_of_le t4))
 have t0:(Zm (p.d*x.w)).size≤536870912:=by rw[← iN];exact t1
 have e:aB p x=sg (-(p.d*x.w)+p.a*x.x+p.b*x.y+p.c*x.z):=by
  unfold aB abv
  congr 1
  omega
 rw[e]
 repeat'(first|refine zg ?_|(refine zc ?_ ?_<;>intro hc<;>try simp only[NM]at hc)|refine zr ?_|(first|refine zf (cH (p.d) (x.w) (by omega) (by omega)) ?_|refine zf (cH (p.a) (x.x) (by omega) (by omega)) ?_|refine zf (cH (p.b) (x.y) (by omega) (by omega)) ?_|refine zf (cH (p.c) (x.z) (by omega) (by omega)) ?_)|(refine zf (oD (p.d*x.w) (by omega)) ?_)|(first|refine zf (tP (-(p.d*x.w)) (p.a*x.x) (by omega) (by omega)) ?_|refine zf (tP (-(p.d*x.w)+p.a*x.x) (p.b*x.y) (by omega) (by omega)) ?_|refine zf (tP (-(p.d*x.w)+p.a*x.x+p.b*x.y) (p.c*x.z) (by omega) (by omega)) ?_)|(refine zf (c86w (-(p.d*x.w)+p.a*x.x+p.b*x.y+p.c*x.z) (by omega)) ?_)|refine⟨by omega,?_⟩|(refine zb ?_ ?_<;>intro hg<;>(try rw[hg])<;>try simp only[NM]at hg)|omega|simp -dsimp (disch:=try exact zo)only[go_sem]|contradiction|rfl)
theorem c51 (p:Pl) (hp:BPl 268435456 p):CallOK prog 51 [.agg (eH p)] [] (.agg (eH (bH p))) []:=by
 refine zs func51 16 [.cell 2 26] results51 ?_
 simp only[aD,Nat.reduceAdd]
 obtain⟨⟨s1,s2,s3,s4⟩⟩:=hp
 unfold bH
 repeat'(first|refine zg ?_|(refine zc ?_ ?_<;>intro hc<;>try simp only[NM]at hc)|refine zr ?_|(first|refine zf (oD p.a (by omega)) ?_|refine zf (oD p.b (by omega)) ?_|refine zf (oD p.c (by omega)) ?_|refine zf (oD p.d (by omega)) ?_)|refine⟨by omega,?_⟩|(refine zb ?_ ?_<;>intro hg<;>(try rw[hg])<;>try simp only[NM]at hg)|omega|simp -dsimp (disch:=try exact zo)only[go_sem]|contradiction|rfl)
end Go.Proofs.Vx
namespace Go.Proofs.Vx
open Go Go.Sx Go.Proofs Tryz
attribute [local irreducible] fnT CallOK CallFr AW aO callV aP aN aM aQ gcaseP hid
theorem b4q (b:Pl) (l:aF) (i:Nat) (h:i<l.length):bJ b (l.take (i+1))=(bJ b (l.take i)||l[i].2.any (fun v=>decide (aB b v<0))):=by
 unfold bJ
 rw[List.take_succ_eq_append_getElem h,List.any_append]
 simp
theorem b4a (b:Pl) (l:aF) (i:Nat) (h:i<l.length):bI b (l.take (i+1))=(bI b (l.take i)||l[i].2.any (fun v=>decide (0<aB b v))):=by
 unfold bI
 rw[List.take_succ_eq_append_getElem h,List.any_append]
 simp
theorem c162 (l:aF) (b:Pl) (hb:BPl 268435456 b) (hn:l.length≤1048576) (hv:∀ s∈l,s.2.length≤268435456∧∀ v∈s.2,BPt 268435456 v):CallOK prog 162 [.agg [.sl (eS l)],.agg (eH b)] [] (.tup [.lit (.bool (bJ b l)),.lit (.bool (bI b l))]) []:=by
 refine zs func162 52 [.tmp 4,.tmp 5] results162 ?_
 simp only[aD,Nat.reduceAdd]
 have hml:maxLen=9223372036854775807:=rfl
 have hl:(eS l).length=l.length:=List.length_map _
 have hz1:bJ b []=false:=rfl
 have hz2:bI b []=false:=rfl
 repeat'(first|refine zg ?_|(refine zc ?_ ?_<;>intro hc<;>first|simp only[NM]at hc|omega|skip)|refine zr ?_|refine⟨by omega,?_⟩|(refine zb ?_ ?_<;>intro hg<;>(try rw[hg])<;>try simp only[NM]at hg)|omega|simp -dsimp (disch:=try exact zo)only[go_sem,hl]|contradiction|rfl)
 refine AW.loop (fun z:{i:Nat // i≤l.length}=>⟨[(8,.lit (.int .i64 z.1)),(6,.lit (.bool (bJ b (l.take z.1)))),(7,.lit (.bool (bI b (l.take z.1)))),(2,.loc 8 0),(3,.loc 9 0)],[(8,.blk [.sl (eS l)]),(9,.blk (eH b))],60⟩) (fun z=>l.length - z.1) ⟨0,Nat.zero_le _⟩ (aH (by refine⟨?_,?_,?_,?_⟩<;>simp -dsimp (disch:=try exact zo)only[go_sem,aG,aC,List.take_zero,hz1,hz2,ZC])) ?_
 rintro⟨i,hi⟩
 dsimp only
 by_cases hlt:i<l.length
 ·have es1:=sL l i hlt
  have hS1:=b4q b l i hlt
  have hS2:=b4a b l i hlt
  obtain⟨hvn,hvb⟩:=hv _ (List.getElem_mem hlt)
  generalize hq:l[i]=sd at *
  obtain⟨sp,svs⟩:=sd
  dsimp only at es1 hS1 hS2 hvn hvb
  have hvl:(svs.map eP).length=svs.length:=List.length_map _
  generalize bJ b (l.take i)=B0 at *
  generalize bI b (l.take i)=F0 at *
  simp only[eG]at es1
  clear hv hq
  repeat'(first|refine zg ?_|(refine zc ?_ ?_<;>intro hc<;>first|simp only[NM]at hc|omega|skip)|refine zr ?_|refine⟨by omega,?_⟩|(refine zb ?_ ?_<;>intro hg<;>(try rw[hg])<;>try simp only[NM]at hg)|omega|simp -dsimp (disch:=try exact zo)only[go_sem,hl]|contradiction|rfl)
  refine AW.loop (fun z:{j:Nat // j≤svs.length}=>⟨[(9,.lit (.int .i64 z.1)),(8,.lit (.int .i64 i)),(6,.lit (.bool (B0||cN (fun v=>decide (aB b v<0)) svs z.1))),(7,.lit (.bool (F0||cN (fun v=>decide (0<aB b v)) svs z.1))),(2,.loc 8 0),(3,.loc 9 0)],[(8,.blk [.sl (eS l)]),(9,.blk (eH b))],80⟩) (fun z=>svs.length - z.1) ⟨0,Nat.zero_le _⟩ (aH (by refine⟨?_,?_,?_,?_⟩<;>simp -dsimp (disch:=try exact zo)only[go_sem,aG,aC,uR,Bool.or_false,ZC])) ?_
  rintro⟨j,hj⟩
  dsimp only
  by_cases hjt:j<svs.length
  ·have ea:=fB svs j hjt
   have hsb0:=lZ (fun v=>decide (aB b v<0)) svs j hjt
   have hsf0:=lZ (fun v=>decide (0<aB b v)) svs j hjt
   have ca:=c50 b svs[j] hb (hvb _ (List.getElem_mem hjt))
   have cb:True:=trivial
   clear hvb hS1 hS2
   generalize svs[j]=a at *
   have hsb:(B0||cN (fun v=>decide (aB b v<0)) svs (j+1))=((B0||cN (fun v=>decide (aB b v<0)) svs j)||decide (aB b a<0)):=by rw[hsb0,Bool.or_assoc]
   have hsf:(F0||cN (fun v=>decide (0<aB b v)) svs (j+1))=((F0||cN (fun v=>decide (0<aB b v)) svs j)||decide (0<aB b a)):=by rw[hsf0,Bool.or_assoc]
   generalize (B0||cN (fun v=>decide (aB b v<0)) svs j)=bb at *
   generalize (F0||cN (fun v=>decide (0<aB b v)) svs j)=ff at *
   clear hsb0 hsf0
   simp only[eP,e4]at ea
   generalize aB b a=sv at *
   by_cases q1:sv<0<;>by_cases q2:0<sv
   ·omega
   all_goals
    have k1:=(show (sv<0)=_∧(0<sv)=_ from⟨(by first|exact eq_true q1|exact eq_false q1),(by first|exact eq_true q2|exact eq_false q2)⟩)
    clear q1 q2
    obtain⟨k1,k2⟩:=k1
    simp only[k1,k2,decide_true,decide_false]at hsb hsf
    cases bb<;>cases ff<;>(try simp only[Bool.true_or,Bool.false_or,Bool.or_true,Bool.or_false]at hsb)<;>(try simp only[Bool.true_or,Bool.false_or,Bool.or_true,Bool.or_false]at hsf)
   all_goals
    repeat'(first|refine zg ?_|(refine zc ?_ ?_<;>intro hc<;>first|simp only[NM]at hc|omega|skip)|refine zr ?_|(first|refine zf ca ?_|refine zf cb ?_)|refine⟨by omega,?_⟩|(refine zb ?_ ?_<;>intro hg<;>(try rw[hg])<;>try simp only[NM]at hg)|omega|simp -dsimp (disch:=try exact zo)only[go_sem,hl,es1,ea,k1,k2,ZT,zl,aG,aC,hvl]|contradiction|rfl)
   all_goals exact AW.stop ⟨⟨j+1,by omega⟩,(aH (by refine⟨?_,?_,?_,?_⟩<;>simp -dsimp (disch:=try exact zo)only[go_sem,aG,aC,hsb,hsf,ZC])),by dsimp only;omega⟩
  ·have hjl:j=svs.length:=by omega
   subst hjl
   rw[l6,l6,← hS1,← hS2]
   clear hvb
   repeat'(first|refine zg ?_|(refine zc ?_ ?_<;>intro hc<;>first|simp only[NM]at hc|omega|skip)|refine zr ?_|refine⟨by omega,?_⟩|(refine zb ?_ ?_<;>intro hg<;>(try rw[hg])<;>try simp only[NM]at hg)|omega|simp -dsimp (disch:=try exact zo)only[go_sem,hl,es1,ZT,zl,aG,aC,hvl]|contradiction|rfl)
   all_goals exact AW.stop ⟨⟨i+1,by omega⟩,(aH (by refine⟨?_,?_,?_,?_⟩<;>simp -dsimp (disch:=try exact zo)only[go_sem,aG,aC,ZC])),by dsimp only;omega⟩
 ·have hil:i=l.length:=by omega
  subst hil
  rw[List.take_length]
  repeat'(first|refine zg ?_|(refine zc ?_ ?_<;>intro hc<;>first|simp only[NM]at hc|omega|skip)|refine zr ?_|refine⟨by omega,?_⟩|(refine zb ?_ ?_<;>intro hg<;>(try rw[hg])<;>try simp only[NM]at hg)|omega|simp -dsimp (disch:=try exact zo)only[go_sem,hl]|contradiction|rfl)
theorem c214f (b:Pl) (vs:List Pt) (hn:vs.length≤268435456) (hcan:∀ v∈vs,CanP v) (hv:∀ v∈vs,BPt 1048576 v) (hb:BPl 1048576 b):CallFr prog 214 [.sl (vs.map eP),.agg (eH b)] 8 ((bD (-1) b vs).map eP):=by
 refine CallFr.flat func214 rfl 60 rfl rfl (pI _) [.tmp 4] (congrArg Array.toList results214) ?_
 simp only[aD,Nat.reduceAdd]
 have hml:maxLen=9223372036854775807:=rfl
 have hl:(vs.map eP).length=vs.length:=List.length_map _
 repeat'(first|refine zg ?_|(refine zc ?_ ?_<;>intro hc<;>first|simp only[NM]at hc|omega|skip)|refine zr ?_|refine⟨by omega,?_⟩|(refine zb ?_ ?_<;>intro hg<;>(try rw[hg])<;>try simp only[NM]at hg)|omega|simp -dsimp (disch:=try exact zo)only[go_sem,hl]|contradiction|rfl)
 refine AW.loop (fun z:{i:Nat // i≤vs.length}=>⟨[(6,.lit (.int .i64 z.1)),(5,.ref 10 0 (aY (-1) b vs z.1).length (aY (-1) b vs z.1).length),(3,.loc 8 0),(0,.sl (vs.map eP))],[(8,.blk (eH b)),(10,.vec 8 ((aY (-1) b vs z.1).map eP))],60⟩) (fun z=>vs.length - z.1) ⟨0,Nat.zero_le _⟩ (aH (by refine⟨?_,?_,?_,?_⟩<;>simp -dsimp (disch:=try exact zo)only[go_sem,uB,aC,List.map_nil,List.length_nil,ZC])) ?_
 rintro⟨i,hi⟩
 dsimp only
 by_cases hlt:i<vs.length
 ·have hmod:(i+1) % vs.length<vs.length:=Nat.mod_lt _ (by omega)
  have hm:((i:Int)+1) % (vs.length:Int)=(((i+1) % vs.length:Nat):Int):=by rw[Int.natCast_emod,Int.natCast_add];rfl
  have ea:=fB vs i hlt
  have ea2:=fB vs _ hmod
  have hW:=uC (-1) b vs i hlt
  have hWn:=tU (-1) b vs i
  have ha:=hv _ (List.getElem_mem hlt)
  have ha2:=hv _ (List.getElem_mem hmod)
  have haw:=hcan _ (List.getElem_mem hlt)
  have ha2w:=hcan _ (List.getElem_mem hmod)
  generalize vs[i]=a at *
  generalize vs[(i+1) % vs.length]=a2 at *
  generalize aY (-1) b vs i=W at *
  simp only[eP,e4]at ea ea2
  have hs1:aB b a≤0↔aB b a≠1:=by have:=a3e (abv b a);unfold aB;omega
  have ca:=c50 b a (hb.mono (by decide)) (ha.mono (by decide))
  have cb:=c50 b a2 (hb.mono (by decide)) (ha2.mono (by decide))
  clear hv hcan
  by_cases q2:aB b a≤0
  ·by_cases q3:aB b a*aB b a2<0
   ·skip
    have k2:(aB b a≤0)=True:=eq_true q2
    have k3:(aB b a*aB b a2<0)=True:=eq_true q3
    have hpc:pc (-1) b a a2=[a,bW b a a2]:=by unfold pc;rw[Int.neg_neg,if_pos (hs1.1 q2),if_pos q3];rfl
    rw[hpc]at hW
    have hWl:(aY (-1) b vs (i+1)).length=W.length+1+1:=by rw[hW];simp
    have hWm:(aY (-1) b vs (i+1)).map eP=W.map eP++[eP (a),eP (bW b a a2)]:=by rw[hW];simp
    have cm:=c247 b a a2 hb haw ha2w ha ha2 q3
    clear hW hpc hs1 ha ha2 haw ha2w
    repeat'(first|refine zg ?_|(refine zc ?_ ?_<;>intro hc<;>first|simp only[NM]at hc|omega|skip)|refine zr ?_|(first|refine zf ca ?_|refine zf cb ?_)|(refine zf cm ?_)|refine⟨by omega,?_⟩|(refine zb ?_ ?_<;>intro hg<;>(try rw[hg])<;>try simp only[NM]at hg)|omega|simp -dsimp (disch:=try exact zo)only[go_sem,hl,ea,ea2,k2,k3,hm,zl,Sx.d7,ZT,List.map_append,aC]|contradiction|rfl)
    all_goals exact AW.stop ⟨⟨i+1,by omega⟩,(aH (by refine⟨?_,?_,?_,?_⟩<;>first|(simp -dsimp (disch:=try exact zo)only[go_sem,hWl,hWm,zl,ZC];done)|(simp -dsimp (disch:=try exact zo)only[go_sem,aC,hWl,ZC];done))),by dsimp only;omega⟩
   ·skip
    have k2:(aB b a≤0)=True:=eq_true q2
    have k3:(aB b a*aB b a2<0)=False:=eq_false q3
    have hpc:pc (-1) b a a2=[a]:=by unfold pc;rw[Int.neg_neg,if_pos (hs1.1 q2),if_neg q3];rfl
    rw[hpc]at hW
    have hWl:(aY (-1) b vs (i+1)).length=W.length+1:=by rw[hW];simp
    have hWm:(aY (-1) b vs (i+1)).map eP=W.map eP++[eP (a)]:=by rw[hW];simp
    have cm:True:=trivial
    clear hW hpc hs1 ha ha2 haw ha2w
    repeat'(first|refine zg ?_|(refine zc ?_ ?_<;>intro hc<;>first|simp only[NM]at hc|omega|skip)|refine zr ?_|(first|refine zf ca ?_|refine zf cb ?_)|(refine zf cm ?_)|refine⟨by omega,?_⟩|(refine zb ?_ ?_<;>intro hg<;>(try rw[hg])<;>try simp only[NM]at hg)|omega|simp -dsimp (disch:=try exact zo)only[go_sem,hl,ea,ea2,k2,k3,hm,zl,Sx.d7,ZT,List.map_append,aC]|contradiction|rfl)
    all_goals exact AW.stop ⟨⟨i+1,by omega⟩,(aH (by refine⟨?_,?_,?_,?_⟩<;>first|(simp -dsimp (disch:=try exact zo)only[go_sem,hWl,hWm,zl,ZC];done)|(simp -dsimp (disch:=try exact zo)only[go_sem,aC,hWl,ZC];done))),by dsimp only;omega⟩
  ·by_cases q3:aB b a*aB b a2<0
   ·skip
    have k2:(aB b a≤0)=False:=eq_false q2
    have k3:(aB b a*aB b a2<0)=True:=eq_true q3
    have hpc:pc (-1) b a a2=[bW b a a2]:=by unfold pc;rw[Int.neg_neg,if_neg (fun h=>q2 (hs1.2 h)),if_pos q3];rfl
    rw[hpc]at hW
    have hWl:(aY (-1) b vs (i+1)).length=W.length+1:=by rw[hW];simp
    have hWm:(aY (-1) b vs (i+1)).map eP=W.map eP++[eP (bW b a a2)]:=by rw[hW];simp
    have cm:=c247 b a a2 hb haw ha2w ha ha2 q3
    clear hW hpc hs1 ha ha2 haw ha2w
    repeat'(first|refine zg ?_|(refine zc ?_ ?_<;>intro hc<;>first|simp only[NM]at hc|omega|skip)|refine zr ?_|(first|refine zf ca ?_|refine zf cb ?_)|(refine zf cm ?_)|refine⟨by omega,?_⟩|(refine zb ?_ ?_<;>intro hg<;>(try rw[hg])<;>try simp only[NM]at hg)|omega|simp -dsimp (disch:=try exact zo)only[go_sem,hl,ea,ea2,k2,k3,hm,zl,Sx.d7,ZT,List.map_append,aC]|contradiction|rfl)
    all_goals exact AW.stop ⟨⟨i+1,by omega⟩,(aH (by refine⟨?_,?_,?_,?_⟩<;>first|(simp -dsimp (disch:=try exact zo)only[go_sem,hWl,hWm,zl,ZC];done)|(simp -dsimp (disch:=try exact zo)only[go_sem,aC,hWl,ZC];done))),by dsimp only;omega⟩
   ·skip
    have k2:(aB b a≤0)=False:=eq_false q2
    have k3:(aB b a*aB b a2<0)=False:=eq_false q3
    have hpc:pc (-1) b a a2=[]:=by unfold pc;rw[Int.neg_neg,if_neg (fun h=>q2 (hs1.2 h)),if_neg q3];rfl
    rw[hpc]at hW
    have hWl:(aY (-1) b vs (i+1)).length=W.length:=by rw[hW];simp
    have hWm:(aY (-1) b vs (i+1)).map eP=W.map eP:=by rw[hW];simp
    have cm:True:=trivial
    clear hW hpc hs1 ha ha2 haw ha2w
    repeat'(first|refine zg ?_|(refine zc ?_ ?_<;>intro hc<;>first|simp only[NM]at hc|omega|skip)|refine zr ?_|(first|refine zf ca ?_|refine zf cb ?_)|(refine zf cm ?_)|refine⟨by omega,?_⟩|(refine zb ?_ ?_<;>intro hg<;>(try rw[hg])<;>try simp only[NM]at hg)|omega|simp -dsimp (disch:=try exact zo)only[go_sem,hl,ea,ea2,k2,k3,hm,zl,Sx.d7,ZT,List.map_append,aC]|contradiction|rfl)
    all_goals exact AW.stop ⟨⟨i+1,by omega⟩,(aH (by refine⟨?_,?_,?_,?_⟩<;>first|(simp -dsimp (disch:=try exact zo)only[go_sem,hWl,hWm,zl,ZC];done)|(simp -dsimp (disch:=try exact zo)only[go_sem,aC,hWl,ZC];done))),by dsimp only;omega⟩
 ·have hil:i=vs.length:=by omega
  subst hil
  rw[uM]
  have hfin:True:=trivial
  repeat'(first|refine zg ?_|(refine zc ?_ ?_<;>intro hc<;>first|simp only[NM]at hc|omega|skip)|(refine AW.ret (pM ?_);simp -dsimp (disch:=try exact zo)only[go_sem,hl,zl,hfin]<;>try (exact⟨_,rfl,rfl⟩))|refine⟨by omega,?_⟩|(refine zb ?_ ?_<;>intro hg<;>(try rw[hg])<;>try simp only[NM]at hg)|omega|simp -dsimp (disch:=try exact zo)only[go_sem,hl,zl,hfin]|contradiction)
theorem c214 (b:Pl) (vs:List Pt) (hn:vs.length≤268435456) (hcan:∀ v∈vs,CanP v) (hv:∀ v∈vs,BPt 1048576 v) (hb:BPl 1048576 b):CallOK prog 214 [.sl (vs.map eP),.agg (eH b)] [] (.sl ((bD (-1) b vs).map eP)) []:=(c214f b vs hn hcan hv hb).ok
end Go.Proofs.Vx
