import Derived.Test.YtjlfgmhmalbiiaaGreatDoorV32
set_option linter.all false
set_option maxHeartbeats 40000000
namespace Go.Proofs.Vx
open Go Go.Sx Go.Proofs Tryz
attribute [local irreducible] fnT CallOK CallFr AW aJ callV aL aI aH aM gcaseP hid
theorem b7k:arT prog 245=none∧slT prog 245=some (41,3):=by and_intros<;>kernel_rfl
attribute [go_sem] b7k
theorem c246a (u v:Geo.V) (hu:QV 8388608 u) (hv:QV 8388608 v):CallOK prog 246 [.agg (eV u.x u.y u.z),.agg (eV v.x v.y v.z),.lit (.int .i64 1),.lit (.int .i64 2)] [] (.agg (eQ (u.y*v.z - u.z*v.y))) []:=by
 refine zs func246 24 [.cell 8 41] results246 ?_
 simp only[aC,Nat.reduceAdd]
 obtain⟨u1,u2,u3⟩:=hu.mono (show 8388608≤67108864 by decide)
 obtain⟨v1,v2,v3⟩:=hv.mono (show 8388608≤67108864 by decide)
 have p1:=(hu.y.mul hv.z).mono (show 8388608+8388608≤67108864 by decide)
 have p2:=(hu.z.mul hv.y).mono (show 8388608+8388608≤67108864 by decide)
 clear hu hv
 repeat'(first|refine zk ?_|(refine zu ?_ ?_<;>intro hc)|(refine zf (rS _ (by assumption) _ (by assumption)) ?_)|(refine zf (rR _ (by assumption) _ (by assumption)) ?_)|(refine zv ?_ ?_<;>intro hg)|omega|simp -dsimp (disch:=try exact zo)only[go_sem]|contradiction|rfl)
theorem c246b (u v:Geo.V) (hu:QV 8388608 u) (hv:QV 8388608 v):CallOK prog 246 [.agg (eV u.x u.y u.z),.agg (eV v.x v.y v.z),.lit (.int .i64 2),.lit (.int .i64 0)] [] (.agg (eQ (u.z*v.x - u.x*v.z))) []:=by
 refine zs func246 24 [.cell 8 41] results246 ?_
 simp only[aC,Nat.reduceAdd]
 obtain⟨u1,u2,u3⟩:=hu.mono (show 8388608≤67108864 by decide)
 obtain⟨v1,v2,v3⟩:=hv.mono (show 8388608≤67108864 by decide)
 have p1:=(hu.z.mul hv.x).mono (show 8388608+8388608≤67108864 by decide)
 have p2:=(hu.x.mul hv.z).mono (show 8388608+8388608≤67108864 by decide)
 clear hu hv
 repeat'(first|refine zk ?_|(refine zu ?_ ?_<;>intro hc)|(refine zf (rS _ (by assumption) _ (by assumption)) ?_)|(refine zf (rR _ (by assumption) _ (by assumption)) ?_)|(refine zv ?_ ?_<;>intro hg)|omega|simp -dsimp (disch:=try exact zo)only[go_sem]|contradiction|rfl)
theorem c246c (u v:Geo.V) (hu:QV 8388608 u) (hv:QV 8388608 v):CallOK prog 246 [.agg (eV u.x u.y u.z),.agg (eV v.x v.y v.z),.lit (.int .i64 0),.lit (.int .i64 1)] [] (.agg (eQ (u.x*v.y - u.y*v.x))) []:=by
 refine zs func246 24 [.cell 8 41] results246 ?_
 simp only[aC,Nat.reduceAdd]
 obtain⟨u1,u2,u3⟩:=hu.mono (show 8388608≤67108864 by decide)
 obtain⟨v1,v2,v3⟩:=hv.mono (show 8388608≤67108864 by decide)
 have p1:=(hu.x.mul hv.y).mono (show 8388608+8388608≤67108864 by decide)
 have p2:=(hu.y.mul hv.x).mono (show 8388608+8388608≤67108864 by decide)
 clear hu hv
 repeat'(first|refine zk ?_|(refine zu ?_ ?_<;>intro hc)|(refine zf (rS _ (by assumption) _ (by assumption)) ?_)|(refine zf (rR _ (by assumption) _ (by assumption)) ?_)|(refine zv ?_ ?_<;>intro hg)|omega|simp -dsimp (disch:=try exact zo)only[go_sem]|contradiction|rfl)
theorem c210 (u v:Geo.V) (hu:QV 8388608 u) (hv:QV 8388608 v):CallOK prog 210 [.agg (eV u.x u.y u.z),.agg (eV v.x v.y v.z)] [] (.agg (eV (Geo.aA u v).x (Geo.aA u v).y (Geo.aA u v).z)) []:=by
 refine zs func210 15 [.cell 4 103] results210 ?_
 simp only[aC,Nat.reduceAdd]
 have ca:=c246a u v hu hv
 have cb:=c246b u v hu hv
 have cc:=c246c u v hu hv
 unfold Geo.aA
 dsimp only
 clear hu hv
 exact z1
theorem c213 (u v:Geo.V) (hu:QV 8388608 u) (hv:QV 8388608 v):CallOK prog 213 [.agg (eV u.x u.y u.z),.agg (eV v.x v.y v.z)] [] (.agg (eQ (Geo.dot u v))) []:=by
 refine zs func213 22 [.cell 4 41] results213 ?_
 simp only[aC,Nat.reduceAdd]
 obtain⟨u1,u2,u3⟩:=hu.mono (show 8388608≤67108864 by decide)
 obtain⟨v1,v2,v3⟩:=hv.mono (show 8388608≤67108864 by decide)
 have p1:=(hu.x.mul hv.x).mono (show 8388608+8388608≤67108864 by decide)
 have p2:=(hu.y.mul hv.y).mono (show 8388608+8388608≤67108864 by decide)
 have p3:=(hu.z.mul hv.z).mono (show 8388608+8388608≤67108864 by decide)
 have q1:=((hu.x.mul hv.x).add (hu.y.mul hv.y)).mono (show 8388608+8388608+(8388608+8388608)+1≤67108864 by decide)
 have zq:Qs 67108864 0:=⟨by show (Zm 0).size≤_;rw[eU];exact Nat.zero_le _,by show (nb 1).size≤_;rw[tQ];decide⟩
 have c64z:CallOK prog 64 [.agg [.lit (.bool false),.lit (.string ⟨#[]⟩),.lit (.string ⟨#[]⟩)],.agg (eQ (u.x*v.x))] [] (.agg (eQ (u.x*v.x))) []:=by
  have:=c64 0 zq _ p1
  rwa [a0k,Rat.zero_add]at this
 unfold Geo.dot
 clear hu hv zq
 repeat'(first|refine zg ?_|refine dJ 6 ?_|(refine zc ?_ ?_<;>intro hc<;>try simp only[NM]at hc)|refine zr ?_|(refine zf (rS _ (by assumption) _ (by assumption)) ?_)|(first|refine zf c64z ?_|refine zf (c64 _ (by assumption) _ (by assumption)) ?_)|refine⟨by omega,?_⟩|(refine zb ?_ ?_<;>intro hg<;>(try rw[hg])<;>try simp only[NM]at hg)|omega|simp -dsimp (disch:=try exact zo)only[go_sem]|contradiction|rfl)
def bU (a b c d:Rat):Int:=1*(a.den:Int)*(b.den:Int)*(c.den:Int)*(d.den:Int)
def mkH (a b c d:Rat):Pl:=jM (a.num*(bU a b c d / (a.den:Int))) (b.num*(bU a b c d / (b.den:Int))) (c.num*(bU a b c d / (c.den:Int))) (d.num*(bU a b c d / (d.den:Int)))
theorem c90q (z:Int) (g:Nat) (hg:0<g) (hd:(g:Int)∣z) (h:(Zm z).size≤268435456) (hgs:(Zm (g:Int)).size≤268435456):CallOK prog 90 [.agg (eZ z),.agg (eZ (g:Int))] [] (.tup [.agg (eZ (z / (g:Int))),.agg (eZ 0),.lit (.bool true)]) []:=by
 have:=iL z g hg hd h (by rw[← iV];exact hgs)
 rwa [← oH]at this
theorem c1l (a b c d:Rat):bU a b c d≠0:=by
 unfold bU
 exact Int.mul_ne_zero (Int.mul_ne_zero (Int.mul_ne_zero (Int.mul_ne_zero (by decide) (gA a)) (gA b)) (gA c)) (gA d)
theorem yU {B:Int} {g:Int} (hB:B≠0) (h:g∣B):B / g≠0:=by
 obtain⟨k,rfl⟩:=h
 have hg:g≠0:=fun e=>hB (by rw[e];simp)
 rw[Int.mul_ediv_cancel_left _ hg]
 exact fun e=>hB (by rw[e];simp)
set_option maxRecDepth 20000 in
theorem c212 (a b c d:Rat) (ha:Qs 16777216 a) (hb:Qs 16777216 b) (hcx:Qs 16777216 c) (hd:Qs 16777216 d) (h0:¬ (a=0∧b=0∧c=0)):CallOK prog 212 [.agg (eV a b c),.agg (eQ d)] [] (.tup [.agg (eH (mkH a b c d)),.lit (.bool true)]) []:=by
 refine zs func212 78 [.cell 4 26,.tmp 5] results212 ?_
 simp only[aC,Nat.reduceAdd]
 have ra:=ha.num
 have rb:=hb.num
 have rc:=hcx.num
 have rd:=hd.num
 have sa:=ha.den'
 have sb:=hb.den'
 have sc:=hcx.den'
 have sd:=hd.den'
 have s1:(Zm 1).size≤1:=by rw[cJ];decide
 have t1:=aP _ _ s1 sa
 have t2:=aP _ _ t1 sb
 have t3:=aP _ _ t2 sc
 have t4:=aP _ _ t3 sd
 have k1:=cI 1 (a.den:Int) (by omega) (by omega)
 have k2:=cI (1*(a.den:Int)) (b.den:Int) (by omega) (by omega)
 have k3:=cI (1*(a.den:Int)*(b.den:Int)) (c.den:Int) (by omega) (by omega)
 have k4:CallOK prog 112 [.agg (eZ (1*(a.den:Int)*(b.den:Int)*(c.den:Int))),.agg (eZ (d.den:Int))] [] (.agg (eZ (bU a b c d))) []:=cI (1*(a.den:Int)*(b.den:Int)*(c.den:Int)) (d.den:Int) (by omega) (by omega)
 have t5:(Zm (bU a b c d)).size≤67108865:=t4
 have v1:(a.den:Int)∣bU a b c d:=by unfold bU;exact Int.dvd_trans (Int.dvd_trans (Int.dvd_trans (Int.dvd_mul_left _ _) (Int.dvd_mul_right _ _)) (Int.dvd_mul_right _ _)) (Int.dvd_mul_right _ _)
 have v2:(b.den:Int)∣bU a b c d:=by unfold bU;exact Int.dvd_trans (Int.dvd_trans (Int.dvd_mul_left _ _) (Int.dvd_mul_right _ _)) (Int.dvd_mul_right _ _)
 have v3:(c.den:Int)∣bU a b c d:=by unfold bU;exact Int.dvd_trans (Int.dvd_mul_left _ _) (Int.dvd_mul_right _ _)
 have v4:(d.den:Int)∣bU a b c d:=by unfold bU;exact Int.dvd_mul_left _ _
 have d1:=c90q (bU a b c d) a.den (Nat.pos_of_ne_zero a.den_nz) v1 (by omega) (by omega)
 have d2:=c90q (bU a b c d) b.den (Nat.pos_of_ne_zero b.den_nz) v2 (by omega) (by omega)
 have d3:=c90q (bU a b c d) c.den (Nat.pos_of_ne_zero c.den_nz) v3 (by omega) (by omega)
 have d4:=c90q (bU a b c d) d.den (Nat.pos_of_ne_zero d.den_nz) v4 (by omega) (by omega)
 have hB:=c1l a b c d
 have n1:=yU hB v1
 have n2:=yU hB v2
 have n3:=yU hB v3
 have w1:=vK (bU a b c d) a.den
 have w2:=vK (bU a b c d) b.den
 have w3:=vK (bU a b c d) c.den
 have w4:=vK (bU a b c d) d.den
 have hz:¬ (a.num*(bU a b c d / (a.den:Int))=0∧b.num*(bU a b c d / (b.den:Int))=0∧c.num*(bU a b c d / (c.den:Int))=0):=by
  rintro⟨e1,e2,e3⟩
  exact h0 ⟨Rat.num_eq_zero.1 ((Int.mul_eq_zero.1 e1).resolve_right n1),Rat.num_eq_zero.1 ((Int.mul_eq_zero.1 e2).resolve_right n2),Rat.num_eq_zero.1 ((Int.mul_eq_zero.1 e3).resolve_right n3)⟩
 clear n1 n2 n3 hB v1 v2 v3 v4 t1 t2 t3 t4 h0
 unfold mkH
 generalize bU a b c d / (a.den:Int)=A at *
 generalize bU a b c d / (b.den:Int)=B at *
 generalize bU a b c d / (c.den:Int)=C at *
 generalize bU a b c d / (d.den:Int)=D at *
 generalize bU a b c d=N at *
 have x1:=aP a.num A ra (show _≤67108866 by omega)
 have x2:=aP b.num B rb (show _≤67108866 by omega)
 have x3:=aP c.num C rc (show _≤67108866 by omega)
 have x4:=aP d.num D rd (show _≤67108866 by omega)
 have m1:=cI a.num A (by omega) (by omega)
 have m2:=cI b.num B (by omega) (by omega)
 have m3:=cI c.num C (by omega) (by omega)
 have m4:=cI d.num D (by omega) (by omega)
 have cn:=c44z _ _ _ _ ⟨show (Zm (a.num*A)).size≤_ by omega,show (Zm (b.num*B)).size≤_ by omega,show (Zm (c.num*C)).size≤_ by omega,show (Zm (d.num*D)).size≤_ by omega⟩ hz
 replace ha:=ha.mono (show 16777216≤67108864 by decide)
 replace hb:=hb.mono (show 16777216≤67108864 by decide)
 replace hcx:=hcx.mono (show 16777216≤67108864 by decide)
 replace hd:=hd.mono (show 16777216≤67108864 by decide)
 clear x1 x2 x3 x4 w1 w2 w3 w4 ra rb rc rd sa sb sc sd s1 hz
 try have zh0:=(oW a ha)
 try have zh1:=(oW b hb)
 try have zh2:=(oW c hcx)
 try have zh3:=(oW d hd)
 have zh4:=uI
 exact z1f
def nP (a b c:Pt):Geo.V:=Geo.aA (tv b - tv a) (tv c - tv a)
def lK (a b c:Pt):Pl:=mkH (nP a b c).x (nP a b c).y (nP a b c).z (Geo.dot (nP a b c) (tv a))
theorem b1e (u v:Geo.V) (hu:QV 33554432 u) (hv:QV 33554432 v):CallOK prog 211 [.agg (eV u.x u.y u.z),.agg (eV v.x v.y v.z)] [] (.agg (eV (u - v).x (u - v).y (u - v).z)) []:=c211 u v hu hv
theorem rT (a b c:Pt) (ha:CanP a) (hb:CanP b) (hcx:CanP c) (ba:BPt 65536 a) (bb:BPt 65536 b) (bc:BPt 65536 c) (h0:nP a b c≠⟨0,0,0⟩):CallOK prog 161 [.agg (eP a),.agg (eP b),.agg (eP c)] [] (.tup [.agg (eH (lK a b c)),.lit (.bool true)]) []:=by
 refine zs func161 32 [.cell 6 26,.tmp 7] results161 ?_
 simp only[aC,Nat.reduceAdd]
 have ca:=rU a ha (ba.mono (by decide))
 have cb:=rU b hb (bb.mono (by decide))
 have cc:=rU c hcx (bc.mono (by decide))
 have qa:=oJ ha ba
 have qb:=oJ hb bb
 have qc:=oJ hcx bc
 have l1:=b1e _ _ (qb.mono (show _≤33554432 by decide)) (qa.mono (show _≤33554432 by decide))
 have l2:=b1e _ _ (qc.mono (show _≤33554432 by decide)) (qa.mono (show _≤33554432 by decide))
 have q1:=a0y qb qa
 have q2:=a0y qc qa
 have cx:=c210 _ _ (q1.mono (show _≤8388608 by decide)) (q2.mono (show _≤8388608 by decide))
 have q3:=c1o q1 q2
 have cd:=c213 _ _ (q3.mono (show _≤8388608 by decide)) (qa.mono (show _≤8388608 by decide))
 have q4:=a1k q3 qa
 have cm:=c212 _ _ _ _ (q3.x.mono (show _≤16777216 by decide)) (q3.y.mono (show _≤16777216 by decide)) (q3.z.mono (show _≤16777216 by decide)) (q4.mono (show _≤16777216 by decide)) (fun e=>h0 (Geo.V.ext e.1 e.2.1 e.2.2))
 change CallOK _ _ [.agg (eV (nP a b c).x (nP a b c).y (nP a b c).z),.agg (eQ (Geo.dot (nP a b c) (tv a)))] _ (.tup [.agg (eH (lK a b c)),_]) _ at cm
 change CallOK _ _ [.agg (eV (nP a b c).x (nP a b c).y (nP a b c).z),_] _ (.agg (eQ (Geo.dot (nP a b c) (tv a)))) _ at cd
 change CallOK _ _ _ _ (.agg (eV (nP a b c).x (nP a b c).y (nP a b c).z)) _ at cx
 clear qa qb qc q1 q2 q3 q4 h0 ha hb hcx ba bb bc
 generalize lK a b c=M at *
 generalize Geo.dot (nP a b c) (tv a)=E at *
 generalize nP a b c=N at *
 generalize tv b - tv a=U at *
 generalize tv c - tv a=W at *
 generalize tv a=A at *
 generalize tv b=B at *
 generalize tv c=C at *
 exact z1
theorem rQ (z:Int) (h:-1000≤z∧z≤1000):CallOK prog 87 [.lit (.int .i64 z)] [] (.agg (eZ z)) []:=c87 z (by omega) (by omega)
theorem c209 (x y z:Int) (hx:-1≤x∧x≤1) (hy:-1≤y∧y≤1) (hz:-1≤z∧z≤1):CallOK prog 209 [.lit (.int .i64 x),.lit (.int .i64 y),.lit (.int .i64 z)] [] (.agg (eP (wpt x y z))) []:=by
 refine zs func209 18 [.cell 6 51] results209 ?_
 simp only[aC,Nat.reduceAdd]
 unfold wpt
 try have zh0:=(rQ (1000*x) (by omega))
 try have zh1:=(rQ (1000*y) (by omega))
 try have zh2:=(rQ (1000*z) (by omega))
 have zh3:=uI
 exact z1
theorem nG (x y z:Int) (hx:-1≤x∧x≤1) (hy:-1≤y∧y≤1) (hz:-1≤z∧z≤1):CallOK prog 160 [.lit (.int .i64 x),.lit (.int .i64 y),.lit (.int .i64 z),.lit (.int .i64 0)] [] (.agg (eP (wpt x y z))) []:=by
 refine zs func160 22 [.cell 8 51] results160 ?_
 simp only[aC,Nat.reduceAdd]
 try have zh0:=(c209 x y z (by omega) (by omega) (by omega))
 exact z1f
theorem nF (x y z:Int) (hx:-1≤x∧x≤1) (hy:-1≤y∧y≤1) (hz:-1≤z∧z≤1):CallOK prog 160 [.lit (.int .i64 x),.lit (.int .i64 y),.lit (.int .i64 z),.lit (.int .i64 1)] [] (.agg (eP (wpt z x y))) []:=by
 refine zs func160 22 [.cell 8 51] results160 ?_
 simp only[aC,Nat.reduceAdd]
 try have zh0:=(c209 z x y (by omega) (by omega) (by omega))
 exact z1f
theorem nE (x y z:Int) (hx:-1≤x∧x≤1) (hy:-1≤y∧y≤1) (hz:-1≤z∧z≤1):CallOK prog 160 [.lit (.int .i64 x),.lit (.int .i64 y),.lit (.int .i64 z),.lit (.int .i64 2)] [] (.agg (eP (wpt y z x))) []:=by
 refine zs func160 22 [.cell 8 51] results160 ?_
 simp only[aC,Nat.reduceAdd]
 try have zh0:=(c209 y z x (by omega) (by omega) (by omega))
 exact z1f
end Go.Proofs.Vx
namespace Go.Proofs.Vx
open Go Go.Sx Go.Proofs Tryz
attribute [local irreducible] fnT CallOK CallFr AW aJ callV aL aI aH aM gcaseP hid
theorem fF (x y z:Int) (h:(-1≤x∧x≤1)∧(-1≤y∧y≤1)∧(-1≤z∧z≤1)):BPt 65536 (wpt x y z):=by
 obtain⟨h1,h2,h3⟩:=h
 have k:∀ t:Int,-1≤t∧t≤1→(Zm (1000*t)).size≤65536:=fun t ht=>Nat.le_trans ((cJ (1000*t) 2).2 (by omega)) (by decide)
 exact⟨⟨k x h1,k y h2,k z h3,Nat.le_trans ((cJ 1 1).2 (by decide)) (by decide)⟩⟩
theorem thr0u:CallOK prog 161 [.agg (eP (wpt 1 (-1) (-1))),.agg (eP (wpt 1 1 (-1))),.agg (eP (wpt 1 1 1))] [] (.tup [.agg (eH ⟨1,0,0,1000⟩),.lit (.bool true)]) []:=by
 have:=rT (wpt 1 (-1) (-1)) (wpt 1 1 (-1)) (wpt 1 1 1) (eD (by decide +kernel)) (eD (by decide +kernel)) (eD (by decide +kernel)) (fF _ _ _ (by decide)) (fF _ _ _ (by decide)) (fF _ _ _ (by decide)) (by decide +kernel)
 rwa [show lK (wpt 1 (-1) (-1)) (wpt 1 1 (-1)) (wpt 1 1 1)=⟨1,0,0,1000⟩ by decide +kernel]at this
theorem thr0d:CallOK prog 161 [.agg (eP (wpt (-1) (-1) (-1))),.agg (eP (wpt (-1) (-1) 1)),.agg (eP (wpt (-1) 1 1))] [] (.tup [.agg (eH ⟨-1,0,0,1000⟩),.lit (.bool true)]) []:=by
 have:=rT (wpt (-1) (-1) (-1)) (wpt (-1) (-1) 1) (wpt (-1) 1 1) (eD (by decide +kernel)) (eD (by decide +kernel)) (eD (by decide +kernel)) (fF _ _ _ (by decide)) (fF _ _ _ (by decide)) (fF _ _ _ (by decide)) (by decide +kernel)
 rwa [show lK (wpt (-1) (-1) (-1)) (wpt (-1) (-1) 1) (wpt (-1) 1 1)=⟨-1,0,0,1000⟩ by decide +kernel]at this
theorem thr1u:CallOK prog 161 [.agg (eP (wpt (-1) 1 (-1))),.agg (eP (wpt (-1) 1 1)),.agg (eP (wpt 1 1 1))] [] (.tup [.agg (eH ⟨0,1,0,1000⟩),.lit (.bool true)]) []:=by
 have:=rT (wpt (-1) 1 (-1)) (wpt (-1) 1 1) (wpt 1 1 1) (eD (by decide +kernel)) (eD (by decide +kernel)) (eD (by decide +kernel)) (fF _ _ _ (by decide)) (fF _ _ _ (by decide)) (fF _ _ _ (by decide)) (by decide +kernel)
 rwa [show lK (wpt (-1) 1 (-1)) (wpt (-1) 1 1) (wpt 1 1 1)=⟨0,1,0,1000⟩ by decide +kernel]at this
theorem thr1d:CallOK prog 161 [.agg (eP (wpt (-1) (-1) (-1))),.agg (eP (wpt 1 (-1) (-1))),.agg (eP (wpt 1 (-1) 1))] [] (.tup [.agg (eH ⟨0,-1,0,1000⟩),.lit (.bool true)]) []:=by
 have:=rT (wpt (-1) (-1) (-1)) (wpt 1 (-1) (-1)) (wpt 1 (-1) 1) (eD (by decide +kernel)) (eD (by decide +kernel)) (eD (by decide +kernel)) (fF _ _ _ (by decide)) (fF _ _ _ (by decide)) (fF _ _ _ (by decide)) (by decide +kernel)
 rwa [show lK (wpt (-1) (-1) (-1)) (wpt 1 (-1) (-1)) (wpt 1 (-1) 1)=⟨0,-1,0,1000⟩ by decide +kernel]at this
theorem thr2u:CallOK prog 161 [.agg (eP (wpt (-1) (-1) 1)),.agg (eP (wpt 1 (-1) 1)),.agg (eP (wpt 1 1 1))] [] (.tup [.agg (eH ⟨0,0,1,1000⟩),.lit (.bool true)]) []:=by
 have:=rT (wpt (-1) (-1) 1) (wpt 1 (-1) 1) (wpt 1 1 1) (eD (by decide +kernel)) (eD (by decide +kernel)) (eD (by decide +kernel)) (fF _ _ _ (by decide)) (fF _ _ _ (by decide)) (fF _ _ _ (by decide)) (by decide +kernel)
 rwa [show lK (wpt (-1) (-1) 1) (wpt 1 (-1) 1) (wpt 1 1 1)=⟨0,0,1,1000⟩ by decide +kernel]at this
theorem thr2d:CallOK prog 161 [.agg (eP (wpt (-1) (-1) (-1))),.agg (eP (wpt (-1) 1 (-1))),.agg (eP (wpt 1 1 (-1)))] [] (.tup [.agg (eH ⟨0,0,-1,1000⟩),.lit (.bool true)]) []:=by
 have:=rT (wpt (-1) (-1) (-1)) (wpt (-1) 1 (-1)) (wpt 1 1 (-1)) (eD (by decide +kernel)) (eD (by decide +kernel)) (eD (by decide +kernel)) (fF _ _ _ (by decide)) (fF _ _ _ (by decide)) (fF _ _ _ (by decide)) (by decide +kernel)
 rwa [show lK (wpt (-1) (-1) (-1)) (wpt (-1) 1 (-1)) (wpt 1 1 (-1))=⟨0,0,-1,1000⟩ by decide +kernel]at this
set_option maxRecDepth 20000 in
theorem c94:CallOK prog 94 [] [] (.agg [.sl (eS bX)]) []:=by
 refine eA func94 rfl 70 rfl rfl (by simp -dsimp (disch:=try exact zo)only[go_sem]) [.cell 0 33] (congrArg Array.toList results94) ?_
 simp only[aC,Nat.reduceAdd]
 have hml:maxLen=9223372036854775807:=rfl
 repeat'(first|refine zk ?_|(refine zu ?_ ?_<;>intro hc)|(refine zv ?_ ?_<;>intro hg)|omega|simp -dsimp (disch:=try exact zo)only[go_sem]|contradiction|rfl)
 refine AW.weak (iP 10 0 9 _ (by decide) rfl (by simp) rfl (by simp)) ?_
 have hwl:eS (List.take 6 bX)=eS bX:=rfl
 have hz:eS (bX.take 0)=[]:=rfl
 refine AW.loop (fun z:{i:Nat // i≤3}=>⟨[(2,.lit (.int .i64 z.1)),(1,.loc 10 0),(0,.loc 8 0)],[(10,.blk [.ref 13 0 (2*z.1) (2*z.1)]),(13,.vec 9 (eS (bX.take (2*z.1)))),(8,.blk [.lit (.slice none 0 0)])],30⟩) (fun z=>3 - z.1) ⟨0,Nat.zero_le _⟩ (aR (by refine⟨?_,?_,?_,?_⟩<;>simp -dsimp (disch:=try exact zo)only[go_sem,Nat.mul_zero,hz,ZC])) ?_
 rintro⟨i,hi⟩
 dsimp only
 rcases (show i=0∨i=1∨i=2∨i=3 by omega)with rfl|rfl|rfl|rfl
 ·have hE:eS (List.take 2 bX)=eS (List.take 0 bX)++[eG ⟨1,0,0,1000⟩ [wpt 1 (-1) (-1),wpt 1 1 (-1),wpt 1 1 1,wpt 1 (-1) 1]]++[eG ⟨-1,0,0,1000⟩ [wpt (-1) (-1) (-1),wpt (-1) (-1) 1,wpt (-1) 1 1,wpt (-1) 1 (-1)]]:=rfl
  have hlE:(eS (List.take 0 bX)).length=0:=rfl
  simp only[Nat.reduceMul]
  generalize eS (List.take 0 bX)=E at *
  repeat'(first|refine AW.seq ?_|refine iE (id:=3) ?_|refine iE (id:=5) ?_|refine iE (id:=6) ?_|refine AW.block ?_|refine AW.blk ?_|refine AW.skip ?_|refine AW.exit rfl ?_|(refine zc ?_ ?_<;>intro hc<;>first|simp only[NM]at hc|omega|skip)|refine zr ?_|(first|refine zf (nG (1) (-1) (-1) (by decide) (by decide) (by decide)) ?_|refine zf (nG (1) (1) (-1) (by decide) (by decide) (by decide)) ?_|refine zf (nG (1) (1) (1) (by decide) (by decide) (by decide)) ?_|refine zf (nG (1) (-1) (1) (by decide) (by decide) (by decide)) ?_|refine zf (nG (-1) (-1) (-1) (by decide) (by decide) (by decide)) ?_|refine zf (nG (-1) (-1) (1) (by decide) (by decide) (by decide)) ?_|refine zf (nG (-1) (1) (1) (by decide) (by decide) (by decide)) ?_|refine zf (nG (-1) (1) (-1) (by decide) (by decide) (by decide)) ?_)|refine⟨by omega,?_⟩|(refine zb ?_ ?_<;>intro hg<;>(try rw[hg])<;>try simp only[NM]at hg)|omega|simp -dsimp (disch:=try exact zo)only[go_sem,hlE]|contradiction|rfl)
  refine AW.weak (kJ 40 4 8 ([wpt 1 (-1) (-1),wpt 1 1 (-1),wpt 1 1 1,wpt 1 (-1) 1].map eP) (t:=[(4,.ref 50 0 4 4),(3,.sl ([wpt 1 (-1) (-1),wpt 1 1 (-1),wpt 1 1 1,wpt 1 (-1) 1].map eP)),(2,.lit (.int .i64 ((0:Nat):Int))),(1,.loc 10 0),(0,.loc 8 0)]) (o:=[(50,.vec 8 ([wpt (-1) (-1) (-1),wpt (-1) (-1) 1,wpt (-1) 1 1,wpt (-1) 1 (-1)].map eP)),(10,.blk [.ref 13 0 0 0]),(13,.vec 9 E),(8,.blk [.lit (.slice none 0 0)])]) rfl rfl (by simp -dsimp (disch:=try exact zo)only[go_sem,and_self,List.map_cons,List.map_nil]) (by simp -dsimp (disch:=try exact zo)only[go_sem,and_self,List.map_cons,List.map_nil])) ?_
  refine AW.weak (kJ 50 4 8 ([wpt (-1) (-1) (-1),wpt (-1) (-1) 1,wpt (-1) 1 1,wpt (-1) 1 (-1)].map eP) (t:=[(4,.sl ([wpt (-1) (-1) (-1),wpt (-1) (-1) 1,wpt (-1) 1 1,wpt (-1) 1 (-1)].map eP)),(3,.sl ([wpt 1 (-1) (-1),wpt 1 1 (-1),wpt 1 1 1,wpt 1 (-1) 1].map eP)),(2,.lit (.int .i64 ((0:Nat):Int))),(1,.loc 10 0),(0,.loc 8 0)]) (o:=[(10,.blk [.ref 13 0 0 0]),(13,.vec 9 E),(8,.blk [.lit (.slice none 0 0)])]) rfl rfl (by simp -dsimp (disch:=try exact zo)only[go_sem,and_self,List.map_cons,List.map_nil]) (by simp -dsimp (disch:=try exact zo)only[go_sem,and_self,List.map_cons,List.map_nil])) ?_
  repeat'(first|refine zk ?_|(refine zu ?_ ?_<;>intro hc)|(first|refine zf thr0u ?_|refine zf thr0d ?_)|(refine zv ?_ ?_<;>intro hg)|omega|simp -dsimp (disch:=try exact zo)only[go_sem,hlE,List.map_cons,List.map_nil]|rfl)
  all_goals exact AW.stop ⟨⟨1,by omega⟩,(mW (by simp -dsimp (disch:=try exact zo)only[go_sem,Int.cast_ofNat_Int]) (by simp -dsimp (disch:=try exact zo)only[go_sem,hE,Int.cast_ofNat_Int];try rfl) (by decide) (by simp -dsimp (disch:=try exact zo)only[go_sem,Int.cast_ofNat_Int]) (by simp -dsimp (disch:=try exact zo)only[go_sem,Int.cast_ofNat_Int])),by dsimp only;omega⟩
 ·have hE:eS (List.take 4 bX)=eS (List.take 2 bX)++[eG ⟨0,1,0,1000⟩ [wpt (-1) 1 (-1),wpt (-1) 1 1,wpt 1 1 1,wpt 1 1 (-1)]]++[eG ⟨0,-1,0,1000⟩ [wpt (-1) (-1) (-1),wpt 1 (-1) (-1),wpt 1 (-1) 1,wpt (-1) (-1) 1]]:=rfl
  have hlE:(eS (List.take 2 bX)).length=2:=rfl
  simp only[Nat.reduceMul]
  generalize eS (List.take 2 bX)=E at *
  repeat'(first|refine AW.seq ?_|refine iE (id:=3) ?_|refine iE (id:=5) ?_|refine iE (id:=6) ?_|refine AW.block ?_|refine AW.blk ?_|refine AW.skip ?_|refine AW.exit rfl ?_|(refine zc ?_ ?_<;>intro hc<;>first|simp only[NM]at hc|omega|skip)|refine zr ?_|(first|refine zf (nF (1) (-1) (-1) (by decide) (by decide) (by decide)) ?_|refine zf (nF (1) (1) (-1) (by decide) (by decide) (by decide)) ?_|refine zf (nF (1) (1) (1) (by decide) (by decide) (by decide)) ?_|refine zf (nF (1) (-1) (1) (by decide) (by decide) (by decide)) ?_|refine zf (nF (-1) (-1) (-1) (by decide) (by decide) (by decide)) ?_|refine zf (nF (-1) (-1) (1) (by decide) (by decide) (by decide)) ?_|refine zf (nF (-1) (1) (1) (by decide) (by decide) (by decide)) ?_|refine zf (nF (-1) (1) (-1) (by decide) (by decide) (by decide)) ?_)|refine⟨by omega,?_⟩|(refine zb ?_ ?_<;>intro hg<;>(try rw[hg])<;>try simp only[NM]at hg)|omega|simp -dsimp (disch:=try exact zo)only[go_sem,hlE]|contradiction|rfl)
  refine AW.weak (kJ 40 4 8 ([wpt (-1) 1 (-1),wpt (-1) 1 1,wpt 1 1 1,wpt 1 1 (-1)].map eP) (t:=[(4,.ref 50 0 4 4),(3,.sl ([wpt (-1) 1 (-1),wpt (-1) 1 1,wpt 1 1 1,wpt 1 1 (-1)].map eP)),(2,.lit (.int .i64 ((1:Nat):Int))),(1,.loc 10 0),(0,.loc 8 0)]) (o:=[(50,.vec 8 ([wpt (-1) (-1) (-1),wpt 1 (-1) (-1),wpt 1 (-1) 1,wpt (-1) (-1) 1].map eP)),(10,.blk [.ref 13 0 2 2]),(13,.vec 9 E),(8,.blk [.lit (.slice none 0 0)])]) rfl rfl (by simp -dsimp (disch:=try exact zo)only[go_sem,and_self,List.map_cons,List.map_nil]) (by simp -dsimp (disch:=try exact zo)only[go_sem,and_self,List.map_cons,List.map_nil])) ?_
  refine AW.weak (kJ 50 4 8 ([wpt (-1) (-1) (-1),wpt 1 (-1) (-1),wpt 1 (-1) 1,wpt (-1) (-1) 1].map eP) (t:=[(4,.sl ([wpt (-1) (-1) (-1),wpt 1 (-1) (-1),wpt 1 (-1) 1,wpt (-1) (-1) 1].map eP)),(3,.sl ([wpt (-1) 1 (-1),wpt (-1) 1 1,wpt 1 1 1,wpt 1 1 (-1)].map eP)),(2,.lit (.int .i64 ((1:Nat):Int))),(1,.loc 10 0),(0,.loc 8 0)]) (o:=[(10,.blk [.ref 13 0 2 2]),(13,.vec 9 E),(8,.blk [.lit (.slice none 0 0)])]) rfl rfl (by simp -dsimp (disch:=try exact zo)only[go_sem,and_self,List.map_cons,List.map_nil]) (by simp -dsimp (disch:=try exact zo)only[go_sem,and_self,List.map_cons,List.map_nil])) ?_
  repeat'(first|refine zk ?_|(refine zu ?_ ?_<;>intro hc)|(first|refine zf thr1u ?_|refine zf thr1d ?_)|(refine zv ?_ ?_<;>intro hg)|omega|simp -dsimp (disch:=try exact zo)only[go_sem,hlE,List.map_cons,List.map_nil]|rfl)
  all_goals exact AW.stop ⟨⟨2,by omega⟩,(mW (by simp -dsimp (disch:=try exact zo)only[go_sem,Int.cast_ofNat_Int]) (by simp -dsimp (disch:=try exact zo)only[go_sem,hE,Int.cast_ofNat_Int];try rfl) (by decide) (by simp -dsimp (disch:=try exact zo)only[go_sem,Int.cast_ofNat_Int]) (by simp -dsimp (disch:=try exact zo)only[go_sem,Int.cast_ofNat_Int])),by dsimp only;omega⟩
 ·have hE:eS (List.take 6 bX)=eS (List.take 4 bX)++[eG ⟨0,0,1,1000⟩ [wpt (-1) (-1) 1,wpt 1 (-1) 1,wpt 1 1 1,wpt (-1) 1 1]]++[eG ⟨0,0,-1,1000⟩ [wpt (-1) (-1) (-1),wpt (-1) 1 (-1),wpt 1 1 (-1),wpt 1 (-1) (-1)]]:=rfl
  have hlE:(eS (List.take 4 bX)).length=4:=rfl
  simp only[Nat.reduceMul]
  generalize eS (List.take 4 bX)=E at *
  repeat'(first|refine AW.seq ?_|refine iE (id:=3) ?_|refine iE (id:=5) ?_|refine iE (id:=6) ?_|refine AW.block ?_|refine AW.blk ?_|refine AW.skip ?_|refine AW.exit rfl ?_|(refine zc ?_ ?_<;>intro hc<;>first|simp only[NM]at hc|omega|skip)|refine zr ?_|(first|refine zf (nE (1) (-1) (-1) (by decide) (by decide) (by decide)) ?_|refine zf (nE (1) (1) (-1) (by decide) (by decide) (by decide)) ?_|refine zf (nE (1) (1) (1) (by decide) (by decide) (by decide)) ?_|refine zf (nE (1) (-1) (1) (by decide) (by decide) (by decide)) ?_|refine zf (nE (-1) (-1) (-1) (by decide) (by decide) (by decide)) ?_|refine zf (nE (-1) (-1) (1) (by decide) (by decide) (by decide)) ?_|refine zf (nE (-1) (1) (1) (by decide) (by decide) (by decide)) ?_|refine zf (nE (-1) (1) (-1) (by decide) (by decide) (by decide)) ?_)|refine⟨by omega,?_⟩|(refine zb ?_ ?_<;>intro hg<;>(try rw[hg])<;>try simp only[NM]at hg)|omega|simp -dsimp (disch:=try exact zo)only[go_sem,hlE]|contradiction|rfl)
  refine AW.weak (kJ 40 4 8 ([wpt (-1) (-1) 1,wpt 1 (-1) 1,wpt 1 1 1,wpt (-1) 1 1].map eP) (t:=[(4,.ref 50 0 4 4),(3,.sl ([wpt (-1) (-1) 1,wpt 1 (-1) 1,wpt 1 1 1,wpt (-1) 1 1].map eP)),(2,.lit (.int .i64 ((2:Nat):Int))),(1,.loc 10 0),(0,.loc 8 0)]) (o:=[(50,.vec 8 ([wpt (-1) (-1) (-1),wpt (-1) 1 (-1),wpt 1 1 (-1),wpt 1 (-1) (-1)].map eP)),(10,.blk [.ref 13 0 4 4]),(13,.vec 9 E),(8,.blk [.lit (.slice none 0 0)])]) rfl rfl (by simp -dsimp (disch:=try exact zo)only[go_sem,and_self,List.map_cons,List.map_nil]) (by simp -dsimp (disch:=try exact zo)only[go_sem,and_self,List.map_cons,List.map_nil])) ?_
  refine AW.weak (kJ 50 4 8 ([wpt (-1) (-1) (-1),wpt (-1) 1 (-1),wpt 1 1 (-1),wpt 1 (-1) (-1)].map eP) (t:=[(4,.sl ([wpt (-1) (-1) (-1),wpt (-1) 1 (-1),wpt 1 1 (-1),wpt 1 (-1) (-1)].map eP)),(3,.sl ([wpt (-1) (-1) 1,wpt 1 (-1) 1,wpt 1 1 1,wpt (-1) 1 1].map eP)),(2,.lit (.int .i64 ((2:Nat):Int))),(1,.loc 10 0),(0,.loc 8 0)]) (o:=[(10,.blk [.ref 13 0 4 4]),(13,.vec 9 E),(8,.blk [.lit (.slice none 0 0)])]) rfl rfl (by simp -dsimp (disch:=try exact zo)only[go_sem,and_self,List.map_cons,List.map_nil]) (by simp -dsimp (disch:=try exact zo)only[go_sem,and_self,List.map_cons,List.map_nil])) ?_
  repeat'(first|refine zk ?_|(refine zu ?_ ?_<;>intro hc)|(first|refine zf thr2u ?_|refine zf thr2d ?_)|(refine zv ?_ ?_<;>intro hg)|omega|simp -dsimp (disch:=try exact zo)only[go_sem,hlE,List.map_cons,List.map_nil]|rfl)
  all_goals exact AW.stop ⟨⟨3,by omega⟩,(mW (by simp -dsimp (disch:=try exact zo)only[go_sem,Int.cast_ofNat_Int]) (by simp -dsimp (disch:=try exact zo)only[go_sem,hE,Int.cast_ofNat_Int];try rfl) (by decide) (by simp -dsimp (disch:=try exact zo)only[go_sem,Int.cast_ofNat_Int]) (by simp -dsimp (disch:=try exact zo)only[go_sem,Int.cast_ofNat_Int])),by dsimp only;omega⟩
 ·exact z1
theorem b0r {K:Nat→Prop}:In K (.agg [.lit (.slice none 0 0)]):=.agg _ (by intro c hc;simp only[zM,or_false]at hc;subst hc;exact .lit _)
theorem splIn {K:Nat→Prop} {l:aD} {b:Pl}:In K (if aX b l=false then .tup [.agg [.sl (eS l)],.agg [.lit (.slice none 0 0)]]else if aY b l=false then .tup [.agg [.lit (.slice none 0 0)],.agg [.sl (eS l)]]else .tup [.agg [.sl (eS (jI b l))],.agg [.sl (eS (jI (aT b) l))]]):=by
 have key:∀ a c:AV,In K a→In K c→In K (.tup [a,c]):=fun a c ha hc=>.tup _ (by intro x hx;simp only[zM,or_false]at hx;rcases hx with rfl|rfl<;>assumption)
 split
 ·exact key _ _ (fG _) b0r
 ·split
  ·exact key _ _ b0r (fG _)
  ·exact key _ _ (fG _) (fG _)
theorem c95x (l:aD) (b:Pl) (h:CellOK l) (hb:BPl 1048576 b) (hn:l.length≤4096) (hv:∀ s∈l,s.2.length≤65536∧∀ v∈s.2,BPt 1048576 v):CallOK prog 95 [.agg [.sl (eS l)],.agg (eH b)] [] (if aX b l=false then .tup [.agg [.sl (eS l)],.agg [.lit (.slice none 0 0)]]else if aY b l=false then .tup [.agg [.lit (.slice none 0 0)],.agg [.sl (eS l)]]else .tup [.agg [.sl (eS (jI b l))],.agg [.sl (eS (jI (aT b) l))]]) []:=by
 refine eA func95 rfl 29 rfl rfl splIn [.cell 4 33,.cell 5 33] (congrArg Array.toList results95) ?_
 simp only[aC,Nat.reduceAdd]
 have cr:=c162 l b (hb.mono (by decide)) (by omega) (fun s hs=>⟨Nat.le_trans (hv s hs).1 (by decide),fun v hvm=>((hv s hs).2 v hvm).mono (by decide)⟩)
 have cf:=c51 b (hb.mono (by decide))
 by_cases hf:aX b l=false
 ·rw[if_pos hf]
  have ca:True:=trivial
  have cb:True:=trivial
  rw[hf]at cr
  clear h hv hf
  generalize aY b l=B at *
  exact z1
 ·rw[if_neg hf]
  have hf':aX b l=true:=by simpa using hf
  rw[hf']at cr
  by_cases hbb:aY b l=false
  ·rw[if_pos hbb]
   rw[hbb]at cr
   have ca:True:=trivial
   have cb:True:=trivial
   clear h hv hf hbb hf'
   exact z1
  ·rw[if_neg hbb]
   have hb':aY b l=true:=by simpa using hbb
   rw[hb']at cr
   have ca:=c163 l b h (fY h hf' hb') hb hn hv
   have cb:=c163 l (aT b) h (fY h (by rw[kQ];exact hb') (by rw[mI];exact hf')) hb.neg hn hv
   clear h hv hf hbb hf' hb'
   exact z1
theorem c95 (l:aD) (b:Pl) (h:CellOK l) (hb:BPl 1048576 b) (hn:l.length≤4096) (hv:∀ s∈l,s.2.length≤65536∧∀ v∈s.2,BPt 1048576 v):CallOK prog 95 [.agg [.sl (eS l)],.agg (eH b)] [] (.tup [.agg [.sl (eS (bY b l).1)],.agg [.sl (eS (bY b l).2)]]) []:=by
 have:=c95x l b h hb hn hv
 unfold bY
 by_cases hf:aX b l=false
 ·rw[if_pos hf]at this ⊢
  exact this.wk fun g v=>wF (fun v h=>h) (fun v h=>vO h)
 ·rw[if_neg hf]at this ⊢
  by_cases hbb:aY b l=false
  ·rw[if_pos hbb]at this ⊢
   exact this.wk fun g v=>wF (fun v h=>vO h) (fun v h=>h)
  ·rw[if_neg hbb]at this ⊢
   exact this
end Go.Proofs.Vx
namespace Go.Proofs.Vx
open Go Go.Sx Go.Proofs Tryz
attribute [local irreducible] fnT CallOK CallFr AW aJ callV aL aI aH aM gcaseP hid
def ptR (x:RP):Pt:=nrm (iv x.n1 x.m1) (iv x.n2 x.m2) (iv x.n3 x.m3) (iv x.n4 x.m4)
theorem a0c (x:RP):CanP (ptR x):=vQ _ _ _ _
theorem xB {x:RP} (h:¬ b8 x=true):BPt 6 (ptR x):=by
 obtain⟨h1,h2,h3,h4⟩:=zR (by simpa using h)
 exact⟨a9h ⟨nA h1,nA h2,nA h3,nA h4⟩ (by decide)⟩
theorem c29x (x:RP) (h:¬ b8 x=true):CallOK prog 29 [.agg (eRP x)] [] (.agg (eP (ptR x))) []:=by
 obtain⟨h1,h2,h3,h4⟩:=zR (by simpa using h)
 exact c29 x.n1 x.n2 x.n3 x.n4 x.m1 x.m2 x.m3 x.m4 (by omega) (by omega) (by omega) (by omega)
end Go.Proofs.Vx
namespace Go.Proofs.Vx
open Go Go.Sx Go.Proofs Tryz
attribute [local irreducible] fnT CallOK CallFr AW aJ callV aL aI aH aM gcaseP hid
theorem a0l {l:aD} (h:CellOK l) {x:Pt} (hx:0<x.w):(eY l x=-1↔¬ Geo.Cl (sds l) (tv x))∧(eY l x=1↔Geo.Inn (sds l) (tv x))∧(eY l x=-1∨eY l x=0∨eY l x=1):=by
 have ho:kE l x=true↔¬ Geo.Cl (sds l) (tv x):=by
  unfold kE Geo.Cl
  rw[List.any_eq_true]
  constructor
  ·rintro⟨s,hs,hd⟩ hc
   have h1:=hc (sd s) (List.mem_map_of_mem hs)
   have h2:=(kA s.1 hx).2 (mX.1 (of_decide_eq_true hd))
   exact absurd h1 (Rat.not_le.2 h2)
  ·intro hc
   apply Classical.byContradiction
   intro hn
   refine hc fun t ht=>?_
   obtain⟨s,hs,rfl⟩:=List.mem_map.1 ht
   apply Rat.not_lt.1
   intro hlt
   exact hn ⟨s,hs,decide_eq_true (mX.2 ((kA s.1 hx).1 hlt))⟩
 have hi:(¬ kE l x=true∧¬ onB l x=true)↔Geo.Inn (sds l) (tv x):=by
  rw[ho,Classical.not_not]
  unfold onB Geo.Inn
  rw[List.any_eq_true]
  constructor
  ·rintro⟨hc,hn⟩ t ht
   obtain⟨s,hs,rfl⟩:=List.mem_map.1 ht
   rcases Geo.fC (hc (sd s) (List.mem_map_of_mem hs))with h1|h1
   ·exact h1
   ·exact absurd ⟨s,hs,decide_eq_true (pT.2 ((lR s.1 hx).1 h1))⟩ hn
  ·intro hn
   refine⟨fun t ht=>Rat.le_of_lt (hn t ht),?_⟩
   rintro⟨s,hs,hd⟩
   have h1:=hn (sd s) (List.mem_map_of_mem hs)
   have h2:=(lR s.1 hx).2 (pT.1 (of_decide_eq_true hd))
   rw[show (sd s).h.at (tv x)=(tH s.1).at (tv x)from rfl,h2]at h1
   exact absurd h1 (by decide)
 unfold eY
 have hne:=h.ne
 by_cases h1:kE l x=true
 ·rw[if_pos (.inr h1)]
  refine⟨⟨fun _=>ho.1 h1,fun _=>rfl⟩,⟨fun e=>absurd e (by decide),fun hh=>absurd h1 (hi.2 hh).1⟩,.inl rfl⟩
 ·rw[if_neg (fun e=>e.elim hne h1)]
  by_cases h2:onB l x=true
  ·rw[if_pos h2]
   refine⟨⟨fun e=>absurd e (by decide),fun hh=>absurd (ho.2 hh) h1⟩,⟨fun e=>absurd e (by decide),fun hh=>absurd h2 (hi.2 hh).2⟩,.inr (.inl rfl)⟩
  ·rw[if_neg h2]
   exact⟨⟨fun e=>absurd e (by decide),fun hh=>absurd (ho.2 hh) h1⟩,⟨fun _=>hi.1 ⟨h1,h2⟩,fun _=>rfl⟩,.inr (.inr rfl)⟩
theorem c1x {p:Pl} (h:CanH p):CanH (aT p):=by
 have hg:g4 (-p.a) (-p.b) (-p.c) (-p.d)=g4 p.a p.b p.c p.d:=by unfold g4;simp only[Int.natAbs_neg]
 have hn:=h.nrm
 obtain⟨d1,d2,d3,d4⟩:=j4 p.a p.b p.c p.d
 refine⟨?_,fun e=>h.ne ?_⟩
 ·unfold jM at hn ⊢
  unfold aT
  simp only[hg]
  rw[Int.neg_ediv_of_dvd d1,Int.neg_ediv_of_dvd d2,Int.neg_ediv_of_dvd d3,Int.neg_ediv_of_dvd d4]
  have ha:=congrArg Pl.a hn
  have hb:=congrArg Pl.b hn
  have hc:=congrArg Pl.c hn
  have hd:=congrArg Pl.d hn
  simp only at ha hb hc hd
  rw[ha,hb,hc,hd]
 ·unfold aT at e
  simp only at e
  omega
theorem a9i {r:RP} (h5:¬ (iv r.n1 r.m1=0∧iv r.n2 r.m2=0∧iv r.n3 r.m3=0)):CanH (bR r):=by
 obtain⟨d1,d2,d3,d4⟩:=j4 (iv r.n1 r.m1) (iv r.n2 r.m2) (iv r.n3 r.m3) (iv r.n4 r.m4)
 have hG:0<g4 (iv r.n1 r.m1) (iv r.n2 r.m2) (iv r.n3 r.m3) (iv r.n4 r.m4):=by
  apply Nat.pos_of_ne_zero
  intro h0
  rw[h0]at d1 d2 d3
  exact h5 ⟨by simpa using d1,by simpa using d2,by simpa using d3⟩
 refine⟨?_,fun e=>h5 ⟨Int.eq_zero_of_ediv_eq_zero d1 e.1,Int.eq_zero_of_ediv_eq_zero d2 e.2.1,Int.eq_zero_of_ediv_eq_zero d3 e.2.2⟩⟩
 unfold bR
 generalize iv r.n1 r.m1=x at *
 generalize iv r.n2 r.m2=y at *
 generalize iv r.n3 r.m3=z at *
 generalize iv r.n4 r.m4=w at *
 obtain⟨x',ex⟩:=d1
 obtain⟨y',ey⟩:=d2
 obtain⟨z',ez⟩:=d3
 obtain⟨w',ew⟩:=d4
 have hg1:g4 x' y' z' w'=1:=by
  have:=wY (g4 x y z w:Int) x' y' z' w'
  rw[← ex,← ey,← ez,← ew,Int.natAbs_natCast]at this
  have h2:g4 x y z w*1=g4 x y z w*g4 x' y' z' w':=by rw[Nat.mul_one];exact this
  exact (Nat.eq_of_mul_eq_mul_left hG h2).symm
 have hG':(g4 x y z w:Int)≠0:=by omega
 have q1:x / (g4 x y z w:Int)=x':=by (conv=>lhs;lhs;rw[ex]);exact Int.mul_ediv_cancel_left _ hG'
 have q2:y / (g4 x y z w:Int)=y':=by (conv=>lhs;lhs;rw[ey]);exact Int.mul_ediv_cancel_left _ hG'
 have q3:z / (g4 x y z w:Int)=z':=by (conv=>lhs;lhs;rw[ez]);exact Int.mul_ediv_cancel_left _ hG'
 have q4:w / (g4 x y z w:Int)=w':=by (conv=>lhs;lhs;rw[ew]);exact Int.mul_ediv_cancel_left _ hG'
 unfold jM
 rw[q1,q2,q3,q4]
 simp only[hg1]
 simp
end Go.Proofs.Vx
