import Derived.Test.YtjlfgmhmalbiiaaGreatDoorProg
import Derived.Test.YtjlfgmhmalbiiaaGreatDoorU10
import Derived.Test.YtjlfgmhmalbiiaaGreatDoorU20
import Derived.Test.YtjlfgmhmalbiiaaGreatDoorU33
import Derived.Test.YtjlfgmhmalbiiaaGreatDoorU34
set_option linter.all false
namespace Go.Proofs.Vx
open Go Go.Sx Go.Proofs
attribute [local irreducible] fnT CallOK CallFr AW effV callV runP runO oneP oneO gcaseP hid
theorem yqq_Nx73:arT Tryz.prog 245=none∧slT Tryz.prog 245=some (41,3):=by and_intros<;>kernel_rfl
attribute [go_sem] yqq_Nx73
theorem yfn_94:fnT Tryz.prog 94=true:=by kernel_rfl
theorem yfn_160:fnT Tryz.prog 160=true:=by kernel_rfl
theorem yfn_209:fnT Tryz.prog 209=true:=by kernel_rfl
set_option maxHeartbeats 3200000 in
theorem c246a (u v:Geo.V) (hu:QV 8388608 u) (hv:QV 8388608 v):CallOK Tryz.prog 246 [.agg (eV u.x u.y u.z),.agg (eV v.x v.y v.z),.lit (.int .i64 1),.lit (.int .i64 2)] [] (.agg (eQ (u.y*v.z - u.z*v.y))) []:=by
 refine CallOK.flat Tryz.func246 rfl 24 rfl rfl rfl [.cell 8 41] (congrArg Array.toList Tryz.results246) ?_
 simp only[startT,Nat.reduceAdd]
 obtain ⟨u1,u2,u3⟩:=hu.mono (show 8388608≤67108864 by decide)
 obtain ⟨v1,v2,v3⟩:=hv.mono (show 8388608≤67108864 by decide)
 have p1:=(hu.y.mul hv.z).mono (show 8388608+8388608≤67108864 by decide)
 have p2:=(hu.z.mul hv.y).mono (show 8388608+8388608≤67108864 by decide)
 clear hu hv
 repeat' (first|refine zg ?_|(refine AW.cond rfl ?_ ?_<;>intro hc<;>try simp only[NM]at hc)|refine zr ?_|(refine callV.flat _ yfn_182 (c182 _ (by assumption) _ (by assumption)) rfl rfl ?_)|(refine callV.flat _ yfn_183 (c183 _ (by assumption) _ (by assumption)) rfl rfl ?_)|refine ⟨by omega,?_⟩|(refine zb ?_ ?_<;>intro hg<;>(try rw[hg])<;>try simp only[NM]at hg)|omega|simp -dsimp (disch:=try exact zo) only[go_sem]|contradiction|rfl)
set_option maxHeartbeats 3200000 in
theorem c246b (u v:Geo.V) (hu:QV 8388608 u) (hv:QV 8388608 v):CallOK Tryz.prog 246 [.agg (eV u.x u.y u.z),.agg (eV v.x v.y v.z),.lit (.int .i64 2),.lit (.int .i64 0)] [] (.agg (eQ (u.z*v.x - u.x*v.z))) []:=by
 refine CallOK.flat Tryz.func246 rfl 24 rfl rfl rfl [.cell 8 41] (congrArg Array.toList Tryz.results246) ?_
 simp only[startT,Nat.reduceAdd]
 obtain ⟨u1,u2,u3⟩:=hu.mono (show 8388608≤67108864 by decide)
 obtain ⟨v1,v2,v3⟩:=hv.mono (show 8388608≤67108864 by decide)
 have p1:=(hu.z.mul hv.x).mono (show 8388608+8388608≤67108864 by decide)
 have p2:=(hu.x.mul hv.z).mono (show 8388608+8388608≤67108864 by decide)
 clear hu hv
 repeat' (first|refine zg ?_|(refine AW.cond rfl ?_ ?_<;>intro hc<;>try simp only[NM]at hc)|refine zr ?_|(refine callV.flat _ yfn_182 (c182 _ (by assumption) _ (by assumption)) rfl rfl ?_)|(refine callV.flat _ yfn_183 (c183 _ (by assumption) _ (by assumption)) rfl rfl ?_)|refine ⟨by omega,?_⟩|(refine zb ?_ ?_<;>intro hg<;>(try rw[hg])<;>try simp only[NM]at hg)|omega|simp -dsimp (disch:=try exact zo) only[go_sem]|contradiction|rfl)
set_option maxHeartbeats 3200000 in
theorem c246c (u v:Geo.V) (hu:QV 8388608 u) (hv:QV 8388608 v):CallOK Tryz.prog 246 [.agg (eV u.x u.y u.z),.agg (eV v.x v.y v.z),.lit (.int .i64 0),.lit (.int .i64 1)] [] (.agg (eQ (u.x*v.y - u.y*v.x))) []:=by
 refine CallOK.flat Tryz.func246 rfl 24 rfl rfl rfl [.cell 8 41] (congrArg Array.toList Tryz.results246) ?_
 simp only[startT,Nat.reduceAdd]
 obtain ⟨u1,u2,u3⟩:=hu.mono (show 8388608≤67108864 by decide)
 obtain ⟨v1,v2,v3⟩:=hv.mono (show 8388608≤67108864 by decide)
 have p1:=(hu.x.mul hv.y).mono (show 8388608+8388608≤67108864 by decide)
 have p2:=(hu.y.mul hv.x).mono (show 8388608+8388608≤67108864 by decide)
 clear hu hv
 repeat' (first|refine zg ?_|(refine AW.cond rfl ?_ ?_<;>intro hc<;>try simp only[NM]at hc)|refine zr ?_|(refine callV.flat _ yfn_182 (c182 _ (by assumption) _ (by assumption)) rfl rfl ?_)|(refine callV.flat _ yfn_183 (c183 _ (by assumption) _ (by assumption)) rfl rfl ?_)|refine ⟨by omega,?_⟩|(refine zb ?_ ?_<;>intro hg<;>(try rw[hg])<;>try simp only[NM]at hg)|omega|simp -dsimp (disch:=try exact zo) only[go_sem]|contradiction|rfl)
set_option maxHeartbeats 3200000 in
theorem c210 (u v:Geo.V) (hu:QV 8388608 u) (hv:QV 8388608 v):CallOK Tryz.prog 210 [.agg (eV u.x u.y u.z),.agg (eV v.x v.y v.z)] [] (.agg (eV (Geo.cross u v).x (Geo.cross u v).y (Geo.cross u v).z)) []:=by
 refine CallOK.flat Tryz.func210 rfl 15 rfl rfl rfl [.cell 4 103] (congrArg Array.toList Tryz.results210) ?_
 simp only[startT,Nat.reduceAdd]
 have ca:=c246a u v hu hv
 have cb:=c246b u v hu hv
 have cc:=c246c u v hu hv
 unfold Geo.cross
 dsimp only
 clear hu hv
 repeat' (first|refine zg ?_|(refine AW.cond rfl ?_ ?_<;>intro hc<;>try simp only[NM]at hc)|refine zr ?_|(first|refine callV.flat _ yfn_246 ca rfl rfl ?_|refine callV.flat _ yfn_246 cb rfl rfl ?_|refine callV.flat _ yfn_246 cc rfl rfl ?_)|refine ⟨by omega,?_⟩|(refine zb ?_ ?_<;>intro hg<;>(try rw[hg])<;>try simp only[NM]at hg)|omega|simp -dsimp (disch:=try exact zo) only[go_sem]|contradiction|rfl)
set_option maxHeartbeats 8000000 in
theorem c213 (u v:Geo.V) (hu:QV 8388608 u) (hv:QV 8388608 v):CallOK Tryz.prog 213 [.agg (eV u.x u.y u.z),.agg (eV v.x v.y v.z)] [] (.agg (eQ (Geo.dot u v))) []:=by
 refine CallOK.flat Tryz.func213 rfl 22 rfl rfl rfl [.cell 4 41] (congrArg Array.toList Tryz.results213) ?_
 simp only[startT,Nat.reduceAdd]
 obtain ⟨u1,u2,u3⟩:=hu.mono (show 8388608≤67108864 by decide)
 obtain ⟨v1,v2,v3⟩:=hv.mono (show 8388608≤67108864 by decide)
 have p1:=(hu.x.mul hv.x).mono (show 8388608+8388608≤67108864 by decide)
 have p2:=(hu.y.mul hv.y).mono (show 8388608+8388608≤67108864 by decide)
 have p3:=(hu.z.mul hv.z).mono (show 8388608+8388608≤67108864 by decide)
 have q1:=((hu.x.mul hv.x).add (hu.y.mul hv.y)).mono (show 8388608+8388608+(8388608+8388608)+1≤67108864 by decide)
 have zq:Qs 67108864 0:=⟨by show (Zm 0).size≤_;rw[Zm_zero];exact Nat.zero_le _,by show (nb 1).size≤_;rw[nb_one];decide⟩
 have c64z:CallOK Tryz.prog 64 [.agg [.lit (.bool false),.lit (.string ⟨#[]⟩),.lit (.string ⟨#[]⟩)],.agg (eQ (u.x*v.x))] [] (.agg (eQ (u.x*v.x))) []:=by
  have:=c64 0 zq _ p1
  rwa [eQ_zero,Rat.zero_add]at this
 unfold Geo.dot
 clear hu hv zq
 repeat' (first|refine zg ?_|refine AW.unroll 6 ?_|(refine AW.cond rfl ?_ ?_<;>intro hc<;>try simp only[NM]at hc)|refine zr ?_|(refine callV.flat _ yfn_182 (c182 _ (by assumption) _ (by assumption)) rfl rfl ?_)|(first|refine callV.flat _ yfn_64 c64z rfl rfl ?_|refine callV.flat _ yfn_64 (c64 _ (by assumption) _ (by assumption)) rfl rfl ?_)|refine ⟨by omega,?_⟩|(refine zb ?_ ?_<;>intro hg<;>(try rw[hg])<;>try simp only[NM]at hg)|omega|simp -dsimp (disch:=try exact zo) only[go_sem]|contradiction|rfl)
def dens (a b c d:Rat):Int:=1*(a.den:Int)*(b.den:Int)*(c.den:Int)*(d.den:Int)
def mkH (a b c d:Rat):Pl:=pnrm (a.num*(dens a b c d / (a.den:Int))) (b.num*(dens a b c d / (b.den:Int))) (c.num*(dens a b c d / (c.den:Int))) (d.num*(dens a b c d / (d.den:Int)))
theorem c90q (z:Int) (g:Nat) (hg:0<g) (hd:(g:Int)∣z) (h:(Zm z).size≤268435456) (hgs:(Zm (g:Int)).size≤268435456):CallOK Tryz.prog 90 [.agg (eZ z),.agg (eZ (g:Int))] [] (.tup [.agg (eZ (z / (g:Int))),.agg (eZ 0),.lit (.bool true)]) []:=by
 have:=c90z z g hg hd h (by rw[← Zm_nat];exact hgs)
 rwa [← eZ_nat]at this
theorem dens_pos (a b c d:Rat):dens a b c d≠0:=by
 unfold dens
 exact Int.mul_ne_zero (Int.mul_ne_zero (Int.mul_ne_zero (Int.mul_ne_zero (by decide) (den_ne a)) (den_ne b)) (den_ne c)) (den_ne d)
theorem dvd_div_ne {B:Int} {g:Int} (hB:B≠0) (h:g∣B):B / g≠0:=by
 obtain ⟨k,rfl⟩:=h
 have hg:g≠0:=fun e=>hB (by rw[e];simp)
 rw[Int.mul_ediv_cancel_left _ hg]
 exact fun e=>hB (by rw[e];simp)
set_option maxRecDepth 20000 in
set_option maxHeartbeats 40000000 in
theorem c212 (a b c d:Rat) (ha:Qs 16777216 a) (hb:Qs 16777216 b) (hcx:Qs 16777216 c) (hd:Qs 16777216 d) (h0:¬ (a=0∧b=0∧c=0)):CallOK Tryz.prog 212 [.agg (eV a b c),.agg (eQ d)] [] (.tup [.agg (eH (mkH a b c d)),.lit (.bool true)]) []:=by
 refine CallOK.flat Tryz.func212 rfl 78 rfl rfl rfl [.cell 4 26,.tmp 5] (congrArg Array.toList Tryz.results212) ?_
 simp only[startT,Nat.reduceAdd]
 have ra:=ha.num
 have rb:=hb.num
 have rc:=hcx.num
 have rd:=hd.num
 have sa:=ha.den'
 have sb:=hb.den'
 have sc:=hcx.den'
 have sd:=hd.den'
 have s1:(Zm 1).size≤1:=by rw[Zm_size];decide
 have t1:=zs_mul _ _ s1 sa
 have t2:=zs_mul _ _ t1 sb
 have t3:=zs_mul _ _ t2 sc
 have t4:=zs_mul _ _ t3 sd
 have k1:=c112 1 (a.den:Int) (by omega) (by omega)
 have k2:=c112 (1*(a.den:Int)) (b.den:Int) (by omega) (by omega)
 have k3:=c112 (1*(a.den:Int)*(b.den:Int)) (c.den:Int) (by omega) (by omega)
 have k4:CallOK Tryz.prog 112 [.agg (eZ (1*(a.den:Int)*(b.den:Int)*(c.den:Int))),.agg (eZ (d.den:Int))] [] (.agg (eZ (dens a b c d))) []:=c112 (1*(a.den:Int)*(b.den:Int)*(c.den:Int)) (d.den:Int) (by omega) (by omega)
 have t5:(Zm (dens a b c d)).size≤67108865:=t4
 have v1:(a.den:Int)∣dens a b c d:=by unfold dens;exact Int.dvd_trans (Int.dvd_trans (Int.dvd_trans (Int.dvd_mul_left _ _) (Int.dvd_mul_right _ _)) (Int.dvd_mul_right _ _)) (Int.dvd_mul_right _ _)
 have v2:(b.den:Int)∣dens a b c d:=by unfold dens;exact Int.dvd_trans (Int.dvd_trans (Int.dvd_mul_left _ _) (Int.dvd_mul_right _ _)) (Int.dvd_mul_right _ _)
 have v3:(c.den:Int)∣dens a b c d:=by unfold dens;exact Int.dvd_trans (Int.dvd_mul_left _ _) (Int.dvd_mul_right _ _)
 have v4:(d.den:Int)∣dens a b c d:=by unfold dens;exact Int.dvd_mul_left _ _
 have d1:=c90q (dens a b c d) a.den (Nat.pos_of_ne_zero a.den_nz) v1 (by omega) (by omega)
 have d2:=c90q (dens a b c d) b.den (Nat.pos_of_ne_zero b.den_nz) v2 (by omega) (by omega)
 have d3:=c90q (dens a b c d) c.den (Nat.pos_of_ne_zero c.den_nz) v3 (by omega) (by omega)
 have d4:=c90q (dens a b c d) d.den (Nat.pos_of_ne_zero d.den_nz) v4 (by omega) (by omega)
 have hB:=dens_pos a b c d
 have n1:=dvd_div_ne hB v1
 have n2:=dvd_div_ne hB v2
 have n3:=dvd_div_ne hB v3
 have w1:=zs_div_le (dens a b c d) a.den
 have w2:=zs_div_le (dens a b c d) b.den
 have w3:=zs_div_le (dens a b c d) c.den
 have w4:=zs_div_le (dens a b c d) d.den
 have hz:¬ (a.num*(dens a b c d / (a.den:Int))=0∧b.num*(dens a b c d / (b.den:Int))=0∧c.num*(dens a b c d / (c.den:Int))=0):=by
  rintro ⟨e1,e2,e3⟩
  exact h0 ⟨Rat.num_eq_zero.1 ((Int.mul_eq_zero.1 e1).resolve_right n1),Rat.num_eq_zero.1 ((Int.mul_eq_zero.1 e2).resolve_right n2),Rat.num_eq_zero.1 ((Int.mul_eq_zero.1 e3).resolve_right n3)⟩
 clear n1 n2 n3 hB v1 v2 v3 v4 t1 t2 t3 t4 h0
 unfold mkH
 generalize dens a b c d / (a.den:Int)=A at *
 generalize dens a b c d / (b.den:Int)=B at *
 generalize dens a b c d / (c.den:Int)=C at *
 generalize dens a b c d / (d.den:Int)=D at *
 generalize dens a b c d=N at *
 have x1:=zs_mul a.num A ra (show _≤67108866 by omega)
 have x2:=zs_mul b.num B rb (show _≤67108866 by omega)
 have x3:=zs_mul c.num C rc (show _≤67108866 by omega)
 have x4:=zs_mul d.num D rd (show _≤67108866 by omega)
 have m1:=c112 a.num A (by omega) (by omega)
 have m2:=c112 b.num B (by omega) (by omega)
 have m3:=c112 c.num C (by omega) (by omega)
 have m4:=c112 d.num D (by omega) (by omega)
 have cn:=c44z _ _ _ _ ⟨show (Zm (a.num*A)).size≤_ by omega,show (Zm (b.num*B)).size≤_ by omega,show (Zm (c.num*C)).size≤_ by omega,show (Zm (d.num*D)).size≤_ by omega⟩ hz
 replace ha:=ha.mono (show 16777216≤67108864 by decide)
 replace hb:=hb.mono (show 16777216≤67108864 by decide)
 replace hcx:=hcx.mono (show 16777216≤67108864 by decide)
 replace hd:=hd.mono (show 16777216≤67108864 by decide)
 clear x1 x2 x3 x4 w1 w2 w3 w4 ra rb rc rd sa sb sc sd s1 hz
 repeat' (first|refine zg ?_|refine AW.unroll 6 ?_|(refine AW.cond rfl ?_ ?_<;>intro hc<;>try simp only[NM]at hc)|refine zr ?_|(first|refine callV.flat _ yfn_181 (c181 a ha) rfl rfl ?_|refine callV.flat _ yfn_181 (c181 b hb) rfl rfl ?_|refine callV.flat _ yfn_181 (c181 c hcx) rfl rfl ?_|refine callV.flat _ yfn_181 (c181 d hd) rfl rfl ?_)|(first|refine callV.flat _ yfn_112 k1 rfl rfl ?_|refine callV.flat _ yfn_112 k2 rfl rfl ?_|refine callV.flat _ yfn_112 k3 rfl rfl ?_|refine callV.flat _ yfn_112 k4 rfl rfl ?_|refine callV.flat _ yfn_112 m1 rfl rfl ?_|refine callV.flat _ yfn_112 m2 rfl rfl ?_|refine callV.flat _ yfn_112 m3 rfl rfl ?_|refine callV.flat _ yfn_112 m4 rfl rfl ?_)|(first|refine callV.flat _ yfn_90 d1 rfl rfl ?_|refine callV.flat _ yfn_90 d2 rfl rfl ?_|refine callV.flat _ yfn_90 d3 rfl rfl ?_|refine callV.flat _ yfn_90 d4 rfl rfl ?_)|(refine callV.flat _ yfn_44 cn rfl rfl ?_)|(refine callV.flat _ yfn_87 c87o rfl rfl ?_)|refine ⟨by omega,?_⟩|(refine zb ?_ ?_<;>intro hg<;>(try rw[hg])<;>try simp only[NM]at hg)|omega|simp -dsimp (disch:=try exact zo) only[go_sem]|contradiction|rfl)
def nP (a b c:Pt):Geo.V:=Geo.cross (tv b - tv a) (tv c - tv a)
def thruP (a b c:Pt):Pl:=mkH (nP a b c).x (nP a b c).y (nP a b c).z (Geo.dot (nP a b c) (tv a))
theorem c211t (u v:Geo.V) (hu:QV 33554432 u) (hv:QV 33554432 v):CallOK Tryz.prog 211 [.agg (eV u.x u.y u.z),.agg (eV v.x v.y v.z)] [] (.agg (eV (u - v).x (u - v).y (u - v).z)) []:=c211 u v hu hv
set_option maxHeartbeats 16000000 in
theorem c161 (a b c:Pt) (ha:CanP a) (hb:CanP b) (hcx:CanP c) (ba:BPt 65536 a) (bb:BPt 65536 b) (bc:BPt 65536 c) (h0:nP a b c≠⟨0,0,0⟩):CallOK Tryz.prog 161 [.agg (eP a),.agg (eP b),.agg (eP c)] [] (.tup [.agg (eH (thruP a b c)),.lit (.bool true)]) []:=by
 refine CallOK.flat Tryz.func161 rfl 32 rfl rfl rfl [.cell 6 26,.tmp 7] (congrArg Array.toList Tryz.results161) ?_
 simp only[startT,Nat.reduceAdd]
 have ca:=c128 a ha (ba.mono (by decide))
 have cb:=c128 b hb (bb.mono (by decide))
 have cc:=c128 c hcx (bc.mono (by decide))
 have qa:=tv_qs ha ba
 have qb:=tv_qs hb bb
 have qc:=tv_qs hcx bc
 have l1:=c211t _ _ (qb.mono (show _≤33554432 by decide)) (qa.mono (show _≤33554432 by decide))
 have l2:=c211t _ _ (qc.mono (show _≤33554432 by decide)) (qa.mono (show _≤33554432 by decide))
 have q1:=sub_qs qb qa
 have q2:=sub_qs qc qa
 have cx:=c210 _ _ (q1.mono (show _≤8388608 by decide)) (q2.mono (show _≤8388608 by decide))
 have q3:=cross_qs q1 q2
 have cd:=c213 _ _ (q3.mono (show _≤8388608 by decide)) (qa.mono (show _≤8388608 by decide))
 have q4:=dot_qs q3 qa
 have cm:=c212 _ _ _ _ (q3.x.mono (show _≤16777216 by decide)) (q3.y.mono (show _≤16777216 by decide)) (q3.z.mono (show _≤16777216 by decide)) (q4.mono (show _≤16777216 by decide)) (fun e=>h0 (Geo.V.ext e.1 e.2.1 e.2.2))
 change CallOK _ _ [.agg (eV (nP a b c).x (nP a b c).y (nP a b c).z),.agg (eQ (Geo.dot (nP a b c) (tv a)))] _ (.tup [.agg (eH (thruP a b c)),_]) _ at cm
 change CallOK _ _ [.agg (eV (nP a b c).x (nP a b c).y (nP a b c).z),_] _ (.agg (eQ (Geo.dot (nP a b c) (tv a)))) _ at cd
 change CallOK _ _ _ _ (.agg (eV (nP a b c).x (nP a b c).y (nP a b c).z)) _ at cx
 clear qa qb qc q1 q2 q3 q4 h0 ha hb hcx ba bb bc
 generalize thruP a b c=M at *
 generalize Geo.dot (nP a b c) (tv a)=E at *
 generalize nP a b c=N at *
 generalize tv b - tv a=U at *
 generalize tv c - tv a=W at *
 generalize tv a=A at *
 generalize tv b=B at *
 generalize tv c=C at *
 repeat' (first|refine zg ?_|(refine AW.cond rfl ?_ ?_<;>intro hc<;>try simp only[NM]at hc)|refine zr ?_|(first|refine callV.flat _ yfn_128 ca rfl rfl ?_|refine callV.flat _ yfn_128 cb rfl rfl ?_|refine callV.flat _ yfn_128 cc rfl rfl ?_)|(first|refine callV.flat _ yfn_211 l1 rfl rfl ?_|refine callV.flat _ yfn_211 l2 rfl rfl ?_)|(refine callV.flat _ yfn_210 cx rfl rfl ?_)|(refine callV.flat _ yfn_213 cd rfl rfl ?_)|(refine callV.flat _ yfn_212 cm rfl rfl ?_)|refine ⟨by omega,?_⟩|(refine zb ?_ ?_<;>intro hg<;>(try rw[hg])<;>try simp only[NM]at hg)|omega|simp -dsimp (disch:=try exact zo) only[go_sem]|contradiction|rfl)
theorem c87s (z:Int) (h:-1000≤z∧z≤1000):CallOK Tryz.prog 87 [.lit (.int .i64 z)] [] (.agg (eZ z)) []:=c87 z (by omega) (by omega)
set_option maxHeartbeats 3200000 in
theorem c209 (x y z:Int) (hx:-1≤x∧x≤1) (hy:-1≤y∧y≤1) (hz:-1≤z∧z≤1):CallOK Tryz.prog 209 [.lit (.int .i64 x),.lit (.int .i64 y),.lit (.int .i64 z)] [] (.agg (eP (wpt x y z))) []:=by
 refine CallOK.flat Tryz.func209 rfl 18 rfl rfl rfl [.cell 6 51] (congrArg Array.toList Tryz.results209) ?_
 simp only[startT,Nat.reduceAdd]
 unfold wpt
 repeat' (first|refine zg ?_|(refine AW.cond rfl ?_ ?_<;>intro hc<;>try simp only[NM]at hc)|refine zr ?_|(first|refine callV.flat _ yfn_87 (c87s (1000*x) (by omega)) rfl rfl ?_|refine callV.flat _ yfn_87 (c87s (1000*y) (by omega)) rfl rfl ?_|refine callV.flat _ yfn_87 (c87s (1000*z) (by omega)) rfl rfl ?_|refine callV.flat _ yfn_87 c87o rfl rfl ?_)|refine ⟨by omega,?_⟩|(refine zb ?_ ?_<;>intro hg<;>(try rw[hg])<;>try simp only[NM]at hg)|omega|simp -dsimp (disch:=try exact zo) only[go_sem]|contradiction|rfl)
set_option maxHeartbeats 3200000 in
theorem c160a (x y z:Int) (hx:-1≤x∧x≤1) (hy:-1≤y∧y≤1) (hz:-1≤z∧z≤1):CallOK Tryz.prog 160 [.lit (.int .i64 x),.lit (.int .i64 y),.lit (.int .i64 z),.lit (.int .i64 0)] [] (.agg (eP (wpt x y z))) []:=by
 refine CallOK.flat Tryz.func160 rfl 22 rfl rfl rfl [.cell 8 51] (congrArg Array.toList Tryz.results160) ?_
 simp only[startT,Nat.reduceAdd]
 repeat' (first|refine zg ?_|refine AW.unroll 6 ?_|(refine AW.cond rfl ?_ ?_<;>intro hc<;>try simp only[NM]at hc)|refine zr ?_|(refine callV.flat _ yfn_209 (c209 x y z (by omega) (by omega) (by omega)) rfl rfl ?_)|refine ⟨by omega,?_⟩|(refine zb ?_ ?_<;>intro hg<;>(try rw[hg])<;>try simp only[NM]at hg)|omega|simp -dsimp (disch:=try exact zo) only[go_sem]|contradiction|rfl)
set_option maxHeartbeats 3200000 in
theorem c160b (x y z:Int) (hx:-1≤x∧x≤1) (hy:-1≤y∧y≤1) (hz:-1≤z∧z≤1):CallOK Tryz.prog 160 [.lit (.int .i64 x),.lit (.int .i64 y),.lit (.int .i64 z),.lit (.int .i64 1)] [] (.agg (eP (wpt z x y))) []:=by
 refine CallOK.flat Tryz.func160 rfl 22 rfl rfl rfl [.cell 8 51] (congrArg Array.toList Tryz.results160) ?_
 simp only[startT,Nat.reduceAdd]
 repeat' (first|refine zg ?_|refine AW.unroll 6 ?_|(refine AW.cond rfl ?_ ?_<;>intro hc<;>try simp only[NM]at hc)|refine zr ?_|(refine callV.flat _ yfn_209 (c209 z x y (by omega) (by omega) (by omega)) rfl rfl ?_)|refine ⟨by omega,?_⟩|(refine zb ?_ ?_<;>intro hg<;>(try rw[hg])<;>try simp only[NM]at hg)|omega|simp -dsimp (disch:=try exact zo) only[go_sem]|contradiction|rfl)
set_option maxHeartbeats 3200000 in
theorem c160c (x y z:Int) (hx:-1≤x∧x≤1) (hy:-1≤y∧y≤1) (hz:-1≤z∧z≤1):CallOK Tryz.prog 160 [.lit (.int .i64 x),.lit (.int .i64 y),.lit (.int .i64 z),.lit (.int .i64 2)] [] (.agg (eP (wpt y z x))) []:=by
 refine CallOK.flat Tryz.func160 rfl 22 rfl rfl rfl [.cell 8 51] (congrArg Array.toList Tryz.results160) ?_
 simp only[startT,Nat.reduceAdd]
 repeat' (first|refine zg ?_|refine AW.unroll 6 ?_|(refine AW.cond rfl ?_ ?_<;>intro hc<;>try simp only[NM]at hc)|refine zr ?_|(refine callV.flat _ yfn_209 (c209 y z x (by omega) (by omega) (by omega)) rfl rfl ?_)|refine ⟨by omega,?_⟩|(refine zb ?_ ?_<;>intro hg<;>(try rw[hg])<;>try simp only[NM]at hg)|omega|simp -dsimp (disch:=try exact zo) only[go_sem]|contradiction|rfl)
end Go.Proofs.Vx
