import Derived.Test.YtjlfgmhmalbiiaaGreatDoorProg
import Derived.Test.YtjlfgmhmalbiiaaGreatDoorU10
import Derived.Test.YtjlfgmhmalbiiaaGreatDoorU11
import Derived.Test.YtjlfgmhmalbiiaaGreatDoorU15
import Derived.Test.YtjlfgmhmalbiiaaGreatDoorU27
import Derived.Test.YtjlfgmhmalbiiaaGreatDoorU31
import Derived.Test.YtjlfgmhmalbiiaaGreatDoorU32
set_option linter.all false
namespace Go.Proofs.Vx
open Go Go.Sx Go.Proofs
attribute [local irreducible] fnT CallOK CallFr AW effV callV runP runO oneP oneO gcaseP hid
theorem yqq_Nx71:boT Tryz.prog 24=false∧Tryz.prog.eqGuardType Tryz.prog.depth 24=false∧lfT Tryz.prog 30 24=some [.b,.s]:=by and_intros<;>kernel_rfl
attribute [go_sem] yqq_Nx71
theorem yfn_63:fnT Tryz.prog 63=true:=by kernel_rfl
theorem yfn_64:fnT Tryz.prog 64=true:=by kernel_rfl
theorem yfn_112:fnT Tryz.prog 112=true:=by kernel_rfl
theorem yfn_113:fnT Tryz.prog 113=true:=by kernel_rfl
theorem yfn_114:fnT Tryz.prog 114=true:=by kernel_rfl
theorem yfn_129:fnT Tryz.prog 129=true:=by kernel_rfl
theorem yfn_133:fnT Tryz.prog 133=true:=by kernel_rfl
theorem yfn_134:fnT Tryz.prog 134=true:=by kernel_rfl
theorem yfn_135:fnT Tryz.prog 135=true:=by kernel_rfl
theorem yfn_136:fnT Tryz.prog 136=true:=by kernel_rfl
theorem yfn_157:fnT Tryz.prog 157=true:=by kernel_rfl
theorem yfn_181:fnT Tryz.prog 181=true:=by kernel_rfl
theorem yfn_182:fnT Tryz.prog 182=true:=by kernel_rfl
theorem yfn_183:fnT Tryz.prog 183=true:=by kernel_rfl
theorem yfn_230:fnT Tryz.prog 230=true:=by kernel_rfl
theorem yfn_231:fnT Tryz.prog 231=true:=by kernel_rfl
theorem c152z (n:Bool) (k:Nat) (z:Int) (hk:(nb k).size<4611686018427387904) (h:z=if n then -(k:Int)else k):CallOK Tryz.prog 152 [.lit (.bool n),.lit (.string (nb k))] [] (.agg (eZ z)) []:=by
 have:=c152 n (nb k) hk
 have e:iv n (nb k)=z:=by rw[h];unfold iv;rw[nv_nb]
 rwa [e]at this
theorem mulS (x y:Int):x*y=if (!(Zn x == Zn y))=true then -((nv (Zm x)*nv (Zm y):Nat):Int)else ((nv (Zm x)*nv (Zm y):Nat):Int):=by
 have h1:((nv (Zm x)*nv (Zm y):Nat):Int)=((x*y).natAbs:Int):=by rw[nv_Zm,nv_Zm,Int.natAbs_mul]
 rw[h1]
 unfold Zn
 by_cases h:x<0<;>by_cases h':y<0<;>simp[h,h']
 ·have:=Int.mul_nonneg_of_nonpos_of_nonpos (Int.le_of_lt h) (Int.le_of_lt h');omega
 ·have:=Int.mul_nonpos_of_nonpos_of_nonneg (Int.le_of_lt h) (show 0≤y by omega);omega
 ·have:=Int.mul_nonpos_of_nonneg_of_nonpos (show 0≤x by omega) (Int.le_of_lt h');omega
 ·have:=Int.mul_nonneg (show 0≤x by omega) (show 0≤y by omega);omega
theorem nbm (x y:Int):(nb (nv (Zm x)*nv (Zm y))).size≤(Zm x).size+(Zm y).size:=by
 have:=zs_mul x y (Nat.le_refl _) (Nat.le_refl _)
 have e:nv (Zm x)*nv (Zm y)=(x*y).natAbs:=by rw[nv_Zm,nv_Zm,Int.natAbs_mul]
 rw[e];exact this
set_option maxHeartbeats 3200000 in
theorem c112 (x y:Int) (hx:(Zm x).size<549755813888) (hy:(Zm y).size<549755813888):CallOK Tryz.prog 112 [.agg (eZ x),.agg (eZ y)] [] (.agg (eZ (x*y))) []:=by
 refine CallOK.flat Tryz.func112 rfl 16 rfl rfl rfl [.cell 4 24] (congrArg Array.toList Tryz.results112) ?_
 simp only[startT,Nat.reduceAdd]
 have hs:=nbm x y
 repeat' (first|refine zg ?_|(refine AW.cond rfl ?_ ?_<;>intro hc<;>try simp only[NM]at hc)|refine zr ?_|(refine callV.flat _ yfn_173 (c173 (Zm x) (Zm y) (by omega) (by omega)) rfl rfl ?_)|(refine callV.flat (.agg (eZ (x*y))) yfn_152 (c152z _ _ _ (by omega) (mulS x y)) rfl rfl ?_)|refine ⟨by omega,?_⟩|(refine zb ?_ ?_<;>intro hg<;>(try rw[hg])<;>try simp only[NM]at hg)|omega|simp -dsimp (disch:=try exact zo) only[go_sem]|contradiction|rfl)
set_option maxHeartbeats 3200000 in
theorem c175f (a b:ByteArray) (ha:a.size<1099511627776) (hb:b.size<1099511627776) (hle:nv a<nv b):CallOK Tryz.prog 175 [.lit (.string a),.lit (.string b)] [] (.tup [.lit (.string ⟨#[]⟩),.lit (.bool false)]) []:=by
 refine CallOK.flat Tryz.func175 rfl 42 rfl rfl rfl [.tmp 4,.tmp 5] (congrArg Array.toList Tryz.results175) ?_
 simp only[startT,Nat.reduceAdd]
 have c207x:=c207 a b ha hb
 have hc0:cmpN (nv a) (nv b)<0:=by unfold cmpN;rw[if_pos hle];decide
 generalize cmpN (nv a) (nv b)=cm at *
 have k0:(cm<0)=True:=eq_true hc0
 repeat' (first|refine zg ?_|(refine AW.cond rfl ?_ ?_<;>intro hc<;>first|simp only[NM]at hc|omega|skip)|refine zr ?_|(refine callV.flat _ yfn_207 c207x rfl rfl ?_)|refine ⟨by omega,?_⟩|(refine zb ?_ ?_<;>intro hg<;>(try rw[hg])<;>try simp only[NM]at hg)|omega|simp -dsimp (disch:=try exact zo) only[go_sem,k0]|contradiction|rfl)
set_option maxHeartbeats 3200000 in
theorem c114 (x y:Int) (hx:(Zm x).size<549755813888) (hy:(Zm y).size<549755813888):CallOK Tryz.prog 114 [.agg (eZ x),.agg (eZ y)] [] (.agg (eZ (x+y))) []:=by
 refine CallOK.flat Tryz.func114 rfl 45 rfl rfl rfl [.cell 4 24] (congrArg Array.toList Tryz.results114) ?_
 simp only[startT,Nat.reduceAdd]
 have n1:(nb (nv (Zm x)+nv (Zm y))).size≤(Zm x).size+(Zm y).size+1:=by
  rw[nb_size,nv_Zm,nv_Zm,Nat.pow_succ,Nat.pow_add]
  have h1:=natAbs_lt_pow x
  have h2:=natAbs_lt_pow y
  have h3:1≤256 ^ (Zm x).size:=Nat.pow_pos (by decide)
  have h4:1≤256 ^ (Zm y).size:=Nat.pow_pos (by decide)
  have h5:=Nat.mul_le_mul_left (256 ^ (Zm x).size) h4
  have h6:=Nat.mul_le_mul_right (256 ^ (Zm y).size) h3
  omega
 have n2:(nb (nv (Zm x) - nv (Zm y))).size≤(Zm x).size:=Nat.le_trans (nb_mono (Nat.sub_le _ _)) (can_size _)
 have n3:(nb (nv (Zm y) - nv (Zm x))).size≤(Zm y).size:=Nat.le_trans (nb_mono (Nat.sub_le _ _)) (can_size _)
 by_cases hs:Zn x=Zn y
 ·have hT:=eq_true hs
  repeat' (first|refine zg ?_|(refine AW.cond rfl ?_ ?_<;>intro hc<;>try simp only[NM]at hc)|refine zr ?_|(refine callV.flat _ yfn_174 (c174 (Zm x) (Zm y) (by omega) (by omega)) rfl rfl ?_)|(first|refine callV.flat _ yfn_175 ca rfl rfl ?_|refine callV.flat _ yfn_175 cb rfl rfl ?_)|(first|refine callV.flat (.agg (eZ (x+y))) yfn_152 (c152z (Zn x) _ _ (by omega) (add_s1 hs)) rfl rfl ?_|refine callV.flat (.agg (eZ (x+y))) yfn_152 (c152z (Zn x) _ _ (by omega) (add_s2 hs hle)) rfl rfl ?_|refine callV.flat (.agg (eZ (x+y))) yfn_152 (c152z (Zn y) _ _ (by omega) (add_s3 hs hle)) rfl rfl ?_)|refine ⟨by omega,?_⟩|(refine zb ?_ ?_<;>intro hg<;>(try rw[hg])<;>try simp only[NM]at hg)|omega|simp -dsimp (disch:=try exact zo) only[go_sem,hT]|contradiction|rfl)
 ·have hT:=eq_false hs
  by_cases hle:y.natAbs≤x.natAbs
  ·have ca:=c175 (Zm x) (Zm y) (by omega) (by omega) (by rw[nv_Zm,nv_Zm];exact hle)
   have cb:True:=trivial
   repeat' (first|refine zg ?_|(refine AW.cond rfl ?_ ?_<;>intro hc<;>try simp only[NM]at hc)|refine zr ?_|(refine callV.flat _ yfn_174 (c174 (Zm x) (Zm y) (by omega) (by omega)) rfl rfl ?_)|(first|refine callV.flat _ yfn_175 ca rfl rfl ?_|refine callV.flat _ yfn_175 cb rfl rfl ?_)|(first|refine callV.flat (.agg (eZ (x+y))) yfn_152 (c152z (Zn x) _ _ (by omega) (add_s1 hs)) rfl rfl ?_|refine callV.flat (.agg (eZ (x+y))) yfn_152 (c152z (Zn x) _ _ (by omega) (add_s2 hs hle)) rfl rfl ?_|refine callV.flat (.agg (eZ (x+y))) yfn_152 (c152z (Zn y) _ _ (by omega) (add_s3 hs hle)) rfl rfl ?_)|refine ⟨by omega,?_⟩|(refine zb ?_ ?_<;>intro hg<;>(try rw[hg])<;>try simp only[NM]at hg)|omega|simp -dsimp (disch:=try exact zo) only[go_sem,hT]|contradiction|rfl)
  ·have ca:=c175f (Zm x) (Zm y) (by omega) (by omega) (by rw[nv_Zm,nv_Zm];omega)
   have cb:=c175 (Zm y) (Zm x) (by omega) (by omega) (by rw[nv_Zm,nv_Zm];omega)
   repeat' (first|refine zg ?_|(refine AW.cond rfl ?_ ?_<;>intro hc<;>try simp only[NM]at hc)|refine zr ?_|(refine callV.flat _ yfn_174 (c174 (Zm x) (Zm y) (by omega) (by omega)) rfl rfl ?_)|(first|refine callV.flat _ yfn_175 ca rfl rfl ?_|refine callV.flat _ yfn_175 cb rfl rfl ?_)|(first|refine callV.flat (.agg (eZ (x+y))) yfn_152 (c152z (Zn x) _ _ (by omega) (add_s1 hs)) rfl rfl ?_|refine callV.flat (.agg (eZ (x+y))) yfn_152 (c152z (Zn x) _ _ (by omega) (add_s2 hs hle)) rfl rfl ?_|refine callV.flat (.agg (eZ (x+y))) yfn_152 (c152z (Zn y) _ _ (by omega) (add_s3 hs hle)) rfl rfl ?_)|refine ⟨by omega,?_⟩|(refine zb ?_ ?_<;>intro hg<;>(try rw[hg])<;>try simp only[NM]at hg)|omega|simp -dsimp (disch:=try exact zo) only[go_sem,hT]|contradiction|rfl)
theorem c89w (z:Int) (h:(Zm z).size<4611686018427387904):CallOK Tryz.prog 89 [.agg (eZ z)] [] (.agg (eZ (-z))) []:=by
 have:=c89 (Zn z) (Zm z) (by omega)
 rw[iv_Z]at this
 exact this
theorem c86w (z:Int) (h:(Zm z).size<4611686018427387904):CallOK Tryz.prog 86 [.agg (eZ z)] [] (.lit (.int .i64 (sg z))) []:=by
 have:=c86 (Zn z) (Zm z) (by omega)
 rw[iv_Z]at this
 exact this
theorem c85w (z:Int) (h:(Zm z).size<4611686018427387904):CallOK Tryz.prog 85 [.agg (eZ z)] [] (.agg (eZ z)) []:=by
 have:=c85 (Zn z) (Zm z) (by omega)
 rw[iv_Z]at this
 exact this
set_option maxHeartbeats 3200000 in
theorem c133 (q:Rat) (h:Qs 4294967296 q):CallOK Tryz.prog 133 [.agg (eQ q)] [] (.agg (eZ q.num)) []:=by
 refine CallOK.flat Tryz.func133 rfl 9 rfl rfl rfl [.cell 2 24] (congrArg Array.toList Tryz.results133) ?_
 simp only[startT,Nat.reduceAdd]
 have h1:=h.num
 repeat' (first|refine zg ?_|(refine AW.cond rfl ?_ ?_<;>intro hc<;>try simp only[NM]at hc)|refine zr ?_|(refine callV.flat _ yfn_85 (c85w q.num (by omega)) rfl rfl ?_)|refine ⟨by omega,?_⟩|(refine zb ?_ ?_<;>intro hg<;>(try rw[hg])<;>try simp only[NM]at hg)|omega|simp -dsimp (disch:=try exact zo) only[go_sem]|contradiction|rfl)
set_option maxHeartbeats 3200000 in
theorem c136  : CallOK Tryz.prog 136 [] [] (.agg (eZ 1)) []:=by
 refine CallOK.flat Tryz.func136 rfl 2 rfl rfl rfl [.cell 0 24] (congrArg Array.toList Tryz.results136) ?_
 simp only[startT,Nat.reduceAdd]
 repeat' (first|refine zg ?_|(refine AW.cond rfl ?_ ?_<;>intro hc<;>try simp only[NM]at hc)|refine zr ?_|(refine callV.flat _ yfn_87 (c87 1 (by decide) (by decide)) rfl rfl ?_)|refine ⟨by omega,?_⟩|(refine zb ?_ ?_<;>intro hg<;>(try rw[hg])<;>try simp only[NM]at hg)|omega|simp -dsimp (disch:=try exact zo) only[go_sem]|contradiction|rfl)
set_option maxHeartbeats 3200000 in
theorem c135 (q:Rat) (h:Qs 4294967296 q):CallOK Tryz.prog 135 [.agg (eQ q)] [] (.agg (eZ (q.den:Int))) []:=by
 refine CallOK.flat Tryz.func135 rfl 13 rfl rfl rfl [.cell 2 24] (congrArg Array.toList Tryz.results135) ?_
 simp only[startT,Nat.reduceAdd]
 have h2:=h.den
 rw[eZ_nat]
 by_cases hd:q.den=1
 ·have hq:Qd q=⟨#[]⟩:=if_pos hd
  have e:nb (nv (Qd q))=⟨#[]⟩:=by rw[hq,← nb_zero,nv_nb]
  have e1:eZ 1=[.lit (.bool false),.lit (.string (nb q.den))]:=by rw[hd];simp[eZ,Zn,Zm]
  have eT:True:=trivial
  have qs:(Qd q).size=0:=by rw[hq];rfl
  have c85q:=c85 false (Qd q) (by omega)
  have ez:iv false (Qd q)=((nv (Qd q):Nat):Int):=rfl
  rw[ez,eZ_nat,e]at c85q
  have c136v:=c136
  rw[e1]at c136v
  repeat' (first|refine zg ?_|(refine AW.cond rfl ?_ ?_<;>intro hc<;>try simp only[NM]at hc)|refine zr ?_|(refine callV.flat _ yfn_85 c85q rfl rfl ?_)|(refine callV.flat _ yfn_136 c136v rfl rfl ?_)|refine ⟨by omega,?_⟩|(refine zb ?_ ?_<;>intro hg<;>(try rw[hg])<;>try simp only[NM]at hg)|omega|simp -dsimp (disch:=try exact zo) only[go_sem,eT]|contradiction|rfl)
 ·have hq:Qd q=nb q.den:=if_neg hd
  have e:nb (nv (Qd q))=nb q.den:=by rw[hq,nv_nb]
  have eT:(nb q.den=⟨#[]⟩)=False:=eq_false fun h=>q.den_nz ((nb_eq_empty _).1 h)
  have qs:(Qd q).size≤4294967296:=by rw[hq];exact h2
  have c85q:=c85 false (Qd q) (by omega)
  have ez:iv false (Qd q)=((nv (Qd q):Nat):Int):=rfl
  rw[ez,eZ_nat,e]at c85q
  have c136v:True:=trivial
  repeat' (first|refine zg ?_|(refine AW.cond rfl ?_ ?_<;>intro hc<;>try simp only[NM]at hc)|refine zr ?_|(refine callV.flat _ yfn_85 c85q rfl rfl ?_)|(refine callV.flat _ yfn_136 c136v rfl rfl ?_)|refine ⟨by omega,?_⟩|(refine zb ?_ ?_<;>intro hg<;>(try rw[hg])<;>try simp only[NM]at hg)|omega|simp -dsimp (disch:=try exact zo) only[go_sem,eT]|contradiction|rfl)
theorem divInt_zero {n d:Int} (h0:d≠0):(Rat.divInt n d).num=0↔n=0:=by
 constructor
 ·intro e
  have h1:=mk_num (n:=n) h0
  rw[e]at h1
  have h2:=Nat.div_mul_cancel (Nat.gcd_dvd_left n.natAbs d.natAbs)
  rw[h1]at h2
  have:n.natAbs=0:=by rw[← h2];exact Nat.zero_mul _
  omega
 ·rintro rfl
  rw[Rat.zero_divInt];rfl
theorem c88y (n d:Int) (hn:(Zm n).size≤268435456) (hd:(Zm d).size≤268435456):CallOK Tryz.prog 88 [.sl [[.lit (.bool false),.lit (.string (Zm n))],[.lit (.bool false),.lit (.string (Zm d))]]] [] (.agg [.lit (.bool false),.lit (.string (nb (Nat.gcd n.natAbs d.natAbs)))]) []:=by
 have:=c88 [(false,Zm n),(false,Zm d)] (by simp) (fun r hr=>by simp at hr;rcases hr with rfl|rfl<;>assumption)
 have e:gT [(false,Zm n),(false,Zm d)] 2=Nat.gcd n.natAbs d.natAbs:=by
  unfold gT
  simp[nv_Zm]
 rw[show [(false,Zm n),(false,Zm d)].length=2 from rfl,e,eZ_nat]at this
 exact this
theorem c90y (n:Int) (k g:Nat) (hg:0<g) (hd:g∣n.natAbs) (e:n.natAbs / g=k) (h:(Zm n).size≤268435456) (hgs:(nb g).size≤268435456):CallOK Tryz.prog 90 [.agg [.lit (.bool false),.lit (.string (Zm n))],.agg [.lit (.bool false),.lit (.string (nb g))]] [] (.tup [.agg [.lit (.bool false),.lit (.string (nb k))],.agg (eZ 0),.lit (.bool true)]) []:=by
 have:=c90 false (Zm n) g hg (by rw[nv_Zm];exact hd) h hgs
 have e1:iv false (Zm n) / (g:Int)=((k:Nat):Int):=by
  show ((nv (Zm n):Nat):Int) / (g:Int)=_
  rw[nv_Zm,← e,Int.natCast_ediv]
 rw[e1,eZ_nat]at this
 exact this
set_option maxHeartbeats 8000000 in
theorem c134 (n d:Int) (hn:(Zm n).size≤268435456) (hd:(Zm d).size≤268435456) (h0:d≠0):CallOK Tryz.prog 134 [.agg (eZ n),.agg (eZ d)] [] (.tup [.agg (eQ (Rat.divInt n d)),.lit (.bool true)]) []:=by
 refine CallOK.flat Tryz.func134 rfl 57 rfl rfl rfl [.cell 4 41,.tmp 5] (congrArg Array.toList Tryz.results134) ?_
 simp only[startT,Nat.reduceAdd]
 have k0:(Zm d=⟨#[]⟩)=False:=eq_false fun h=>h0 (Zm_empty.1 h)
 have cg:=c88y n d hn hd
 have hG:0<Nat.gcd n.natAbs d.natAbs:=Nat.gcd_pos_of_pos_right _ (by omega)
 have hGs:(nb (Nat.gcd n.natAbs d.natAbs)).size≤268435456:=Nat.le_trans (nb_mono (Nat.gcd_le_right _ (by omega))) hd
 have d1:=c90y n (Rat.divInt n d).num.natAbs _ hG (Nat.gcd_dvd_left _ _) (mk_num h0) hn hGs
 have d2:=c90y d (Rat.divInt n d).den _ hG (Nat.gcd_dvd_right _ _) (mk_den h0) hd hGs
 have e1:nb (Rat.divInt n d).num.natAbs=Zm (Rat.divInt n d).num:=rfl
 have k1:(Zm (Rat.divInt n d).num=⟨#[]⟩)=(n=0):=by rw[Zm_empty];exact propext (divInt_zero h0)
 have k3:n≠0→(!(Zn n == Zn d))=Zn (Rat.divInt n d).num:=fun hn0=>by have:=mk_sgn (n:=n) (d:=d) hn0 h0;rwa [← Bool.beq_eq_decide_eq]at this
 have hQ:eQ (Rat.divInt n d)=[.lit (.bool (Zn (Rat.divInt n d).num)),.lit (.string (Zm (Rat.divInt n d).num)),.lit (.string (Qd (Rat.divInt n d)))]:=rfl
 have k4:n=0→Zn (Rat.divInt n d).num=false:=fun hn0=>by rw[hn0,Rat.zero_divInt];rfl
 have k5:(Rat.divInt n d).den=1→Qd (Rat.divInt n d)=⟨#[]⟩:=fun h=>if_pos h
 have k6:(Rat.divInt n d).den≠1→Qd (Rat.divInt n d)=nb (Rat.divInt n d).den:=fun h=>if_neg h
 have zn1:Zn 1=false:=rfl
 have zm1:Zm 1=nb 1:=rfl
 rw[e1]at d1
 rw[hQ]
 clear hQ e1 hG h0
 generalize Nat.gcd n.natAbs d.natAbs=G at *
 generalize (Rat.divInt n d).num=qn at *
 generalize Qd (Rat.divInt n d)=qd at *
 generalize (Rat.divInt n d).den=qe at *
 by_cases hn0:n=0
 ·rw[eq_true hn0]at k1
  have k3:=(k4 hn0)
  rw[k3]
  by_cases h1:qe=1
  ·have k2:(nb qe=nb 1)=True:=eq_true (by rw[h1])
   rw[k5 h1]
   clear k4 k5 k6 hn0
   have k3:True:=trivial
   repeat' (first|refine zg ?_|(refine AW.cond rfl ?_ ?_<;>intro hc<;>try simp only[NM]at hc)|refine zr ?_|(first|refine callV.flat _ yfn_85 (c85w n (by omega)) rfl rfl ?_|refine callV.flat _ yfn_85 (c85w d (by omega)) rfl rfl ?_)|(refine callV.lend1 _ yfn_88 cg rfl rfl (by simp -dsimp (disch:=try exact zo) only[go_sem]) (.agg _ (by intro c hc;simp only[List.mem_cons,List.not_mem_nil,or_false]at hc;rcases hc with rfl|rfl<;>exact .lit _)) ?_)|(first|refine callV.flat _ yfn_90 d1 rfl rfl ?_|refine callV.flat _ yfn_90 d2 rfl rfl ?_)|(refine callV.flat _ yfn_136 c136 rfl rfl ?_)|refine ⟨by omega,?_⟩|(refine zb ?_ ?_<;>intro hg<;>(try rw[hg])<;>try simp only[NM]at hg)|omega|simp -dsimp (disch:=try exact zo) only[go_sem,k0,k1,k2,k3,zn1,zm1,and_self,true_and]|contradiction|rfl)
  ·have k2:(nb qe=nb 1)=False:=eq_false fun h=>h1 (nb_inj h)
   rw[k6 h1]
   clear k4 k5 k6 hn0
   have k3:True:=trivial
   repeat' (first|refine zg ?_|(refine AW.cond rfl ?_ ?_<;>intro hc<;>try simp only[NM]at hc)|refine zr ?_|(first|refine callV.flat _ yfn_85 (c85w n (by omega)) rfl rfl ?_|refine callV.flat _ yfn_85 (c85w d (by omega)) rfl rfl ?_)|(refine callV.lend1 _ yfn_88 cg rfl rfl (by simp -dsimp (disch:=try exact zo) only[go_sem]) (.agg _ (by intro c hc;simp only[List.mem_cons,List.not_mem_nil,or_false]at hc;rcases hc with rfl|rfl<;>exact .lit _)) ?_)|(first|refine callV.flat _ yfn_90 d1 rfl rfl ?_|refine callV.flat _ yfn_90 d2 rfl rfl ?_)|(refine callV.flat _ yfn_136 c136 rfl rfl ?_)|refine ⟨by omega,?_⟩|(refine zb ?_ ?_<;>intro hg<;>(try rw[hg])<;>try simp only[NM]at hg)|omega|simp -dsimp (disch:=try exact zo) only[go_sem,k0,k1,k2,k3,zn1,zm1,and_self,true_and]|contradiction|rfl)
 ·rw[eq_false hn0]at k1
  have k3:=k3 hn0
  by_cases h1:qe=1
  ·have k2:(nb qe=nb 1)=True:=eq_true (by rw[h1])
   rw[k5 h1]
   clear k4 k5 k6 hn0
   repeat' (first|refine zg ?_|(refine AW.cond rfl ?_ ?_<;>intro hc<;>try simp only[NM]at hc)|refine zr ?_|(first|refine callV.flat _ yfn_85 (c85w n (by omega)) rfl rfl ?_|refine callV.flat _ yfn_85 (c85w d (by omega)) rfl rfl ?_)|(refine callV.lend1 _ yfn_88 cg rfl rfl (by simp -dsimp (disch:=try exact zo) only[go_sem]) (.agg _ (by intro c hc;simp only[List.mem_cons,List.not_mem_nil,or_false]at hc;rcases hc with rfl|rfl<;>exact .lit _)) ?_)|(first|refine callV.flat _ yfn_90 d1 rfl rfl ?_|refine callV.flat _ yfn_90 d2 rfl rfl ?_)|(refine callV.flat _ yfn_136 c136 rfl rfl ?_)|refine ⟨by omega,?_⟩|(refine zb ?_ ?_<;>intro hg<;>(try rw[hg])<;>try simp only[NM]at hg)|omega|simp -dsimp (disch:=try exact zo) only[go_sem,k0,k1,k2,k3,zn1,zm1,and_self,true_and]|contradiction|rfl)
  ·have k2:(nb qe=nb 1)=False:=eq_false fun h=>h1 (nb_inj h)
   rw[k6 h1]
   clear k4 k5 k6 hn0
   repeat' (first|refine zg ?_|(refine AW.cond rfl ?_ ?_<;>intro hc<;>try simp only[NM]at hc)|refine zr ?_|(first|refine callV.flat _ yfn_85 (c85w n (by omega)) rfl rfl ?_|refine callV.flat _ yfn_85 (c85w d (by omega)) rfl rfl ?_)|(refine callV.lend1 _ yfn_88 cg rfl rfl (by simp -dsimp (disch:=try exact zo) only[go_sem]) (.agg _ (by intro c hc;simp only[List.mem_cons,List.not_mem_nil,or_false]at hc;rcases hc with rfl|rfl<;>exact .lit _)) ?_)|(first|refine callV.flat _ yfn_90 d1 rfl rfl ?_|refine callV.flat _ yfn_90 d2 rfl rfl ?_)|(refine callV.flat _ yfn_136 c136 rfl rfl ?_)|refine ⟨by omega,?_⟩|(refine zb ?_ ?_<;>intro hg<;>(try rw[hg])<;>try simp only[NM]at hg)|omega|simp -dsimp (disch:=try exact zo) only[go_sem,k0,k1,k2,k3,zn1,zm1,and_self,true_and]|contradiction|rfl)
set_option maxHeartbeats 8000000 in
theorem c64 (a:Rat) (hsa:Qs 67108864 a) (b:Rat) (hsb:Qs 67108864 b):CallOK Tryz.prog 64 [.agg (eQ a),.agg (eQ b)] [] (.agg (eQ (a+b))) []:=by
 refine CallOK.flat Tryz.func64 rfl 28 rfl rfl rfl [.cell 4 41] (congrArg Array.toList Tryz.results64) ?_
 simp only[startT,Nat.reduceAdd]
 have s1:=hsa.num
 have s2:=hsa.den'
 have s3:=hsb.num
 have s4:=hsb.den'
 have s5:=zs_mul a.num (b.den:Int) s1 s4
 have s6:=zs_mul b.num (a.den:Int) s3 s2
 have s7:=zs_mul (a.den:Int) (b.den:Int) s2 s4
 have s8:=zs_add _ _ s5 s6
 repeat' (first|refine zg ?_|(refine AW.cond rfl ?_ ?_<;>intro hc<;>try simp only[NM]at hc)|refine zr ?_|(first|refine callV.flat _ yfn_133 (c133 a (Qs.mono hsa (by omega))) rfl rfl ?_|refine callV.flat _ yfn_133 (c133 b (Qs.mono hsb (by omega))) rfl rfl ?_)|(first|refine callV.flat _ yfn_135 (c135 a (Qs.mono hsa (by omega))) rfl rfl ?_|refine callV.flat _ yfn_135 (c135 b (Qs.mono hsb (by omega))) rfl rfl ?_)|(first|refine callV.flat _ yfn_112 (c112 (a.num) ((b.den:Int)) (by omega) (by omega)) rfl rfl ?_|refine callV.flat _ yfn_112 (c112 (b.num) ((a.den:Int)) (by omega) (by omega)) rfl rfl ?_|refine callV.flat _ yfn_112 (c112 ((a.den:Int)) ((b.den:Int)) (by omega) (by omega)) rfl rfl ?_)|(refine callV.flat _ yfn_114 (c114 (a.num*(b.den:Int)) (b.num*(a.den:Int)) (by omega) (by omega)) rfl rfl ?_)|(refine callV.flat (.tup [.agg (eQ (a+b)),.lit (.bool true)]) yfn_134 (by have:=c134 (a.num*(b.den:Int)+b.num*(a.den:Int)) ((a.den:Int)*(b.den:Int)) (by omega) (by omega) (den2_ne a b);rw[q_add a b]at this;exact this) rfl rfl ?_)|refine ⟨by omega,?_⟩|(refine zb ?_ ?_<;>intro hg<;>(try rw[hg])<;>try simp only[NM]at hg)|omega|simp -dsimp (disch:=try exact zo) only[go_sem]|contradiction|rfl)
set_option maxHeartbeats 3200000 in
theorem c231 (a:Rat) (hsa:Qs 67108864 a):CallOK Tryz.prog 231 [.agg (eQ a)] [] (.agg (eQ (-a))) []:=by
 refine CallOK.flat Tryz.func231 rfl 15 rfl rfl rfl [.cell 2 41] (congrArg Array.toList Tryz.results231) ?_
 simp only[startT,Nat.reduceAdd]
 have s1:=hsa.num
 have s2:=hsa.den'
 have s3:(Zm (-a.num)).size≤67108864:=by rw[Zm_neg];exact s1
 repeat' (first|refine zg ?_|(refine AW.cond rfl ?_ ?_<;>intro hc<;>try simp only[NM]at hc)|refine zr ?_|(refine callV.flat _ yfn_133 (c133 a (Qs.mono hsa (by omega))) rfl rfl ?_)|(refine callV.flat _ yfn_135 (c135 a (Qs.mono hsa (by omega))) rfl rfl ?_)|(refine callV.flat _ yfn_89 (c89w a.num (by omega)) rfl rfl ?_)|(refine callV.flat (.tup [.agg (eQ (-a)),.lit (.bool true)]) yfn_134 (by have:=c134 (-a.num) ((a.den:Int)) (by omega) (by omega) (den_ne a);rw[q_neg a]at this;exact this) rfl rfl ?_)|refine ⟨by omega,?_⟩|(refine zb ?_ ?_<;>intro hg<;>(try rw[hg])<;>try simp only[NM]at hg)|omega|simp -dsimp (disch:=try exact zo) only[go_sem]|contradiction|rfl)
set_option maxHeartbeats 3200000 in
theorem c183 (a:Rat) (hsa:Qs 67108864 a) (b:Rat) (hsb:Qs 67108864 b):CallOK Tryz.prog 183 [.agg (eQ a),.agg (eQ b)] [] (.agg (eQ (a - b))) []:=by
 refine CallOK.flat Tryz.func183 rfl 9 rfl rfl rfl [.cell 4 41] (congrArg Array.toList Tryz.results183) ?_
 simp only[startT,Nat.reduceAdd]
 repeat' (first|refine zg ?_|(refine AW.cond rfl ?_ ?_<;>intro hc<;>try simp only[NM]at hc)|refine zr ?_|(refine callV.flat _ yfn_231 (c231 b hsb) rfl rfl ?_)|(refine callV.flat (.agg (eQ (a - b))) yfn_64 (by have:=c64 a hsa (-b) hsb.neg;rw[← Rat.sub_eq_add_neg]at this;exact this) rfl rfl ?_)|refine ⟨by omega,?_⟩|(refine zb ?_ ?_<;>intro hg<;>(try rw[hg])<;>try simp only[NM]at hg)|omega|simp -dsimp (disch:=try exact zo) only[go_sem]|contradiction|rfl)
set_option maxHeartbeats 8000000 in
theorem c182 (a:Rat) (hsa:Qs 67108864 a) (b:Rat) (hsb:Qs 67108864 b):CallOK Tryz.prog 182 [.agg (eQ a),.agg (eQ b)] [] (.agg (eQ (a*b))) []:=by
 refine CallOK.flat Tryz.func182 rfl 22 rfl rfl rfl [.cell 4 41] (congrArg Array.toList Tryz.results182) ?_
 simp only[startT,Nat.reduceAdd]
 have s1:=hsa.num
 have s2:=hsa.den'
 have s3:=hsb.num
 have s4:=hsb.den'
 have s5:=zs_mul a.num b.num s1 s3
 have s7:=zs_mul (a.den:Int) (b.den:Int) s2 s4
 repeat' (first|refine zg ?_|(refine AW.cond rfl ?_ ?_<;>intro hc<;>try simp only[NM]at hc)|refine zr ?_|(first|refine callV.flat _ yfn_133 (c133 a (Qs.mono hsa (by omega))) rfl rfl ?_|refine callV.flat _ yfn_133 (c133 b (Qs.mono hsb (by omega))) rfl rfl ?_)|(first|refine callV.flat _ yfn_135 (c135 a (Qs.mono hsa (by omega))) rfl rfl ?_|refine callV.flat _ yfn_135 (c135 b (Qs.mono hsb (by omega))) rfl rfl ?_)|(first|refine callV.flat _ yfn_112 (c112 (a.num) (b.num) (by omega) (by omega)) rfl rfl ?_|refine callV.flat _ yfn_112 (c112 ((a.den:Int)) ((b.den:Int)) (by omega) (by omega)) rfl rfl ?_)|(refine callV.flat (.tup [.agg (eQ (a*b)),.lit (.bool true)]) yfn_134 (by have:=c134 (a.num*b.num) ((a.den:Int)*(b.den:Int)) (by omega) (by omega) (den2_ne a b);rw[q_mul a b]at this;exact this) rfl rfl ?_)|refine ⟨by omega,?_⟩|(refine zb ?_ ?_<;>intro hg<;>(try rw[hg])<;>try simp only[NM]at hg)|omega|simp -dsimp (disch:=try exact zo) only[go_sem]|contradiction|rfl)
set_option maxHeartbeats 3200000 in
theorem c63 (a:Rat) (hsa:Qs 67108864 a):CallOK Tryz.prog 63 [.agg (eQ a)] [] (.lit (.int .i64 (sg a.num))) []:=by
 refine CallOK.flat Tryz.func63 rfl 6 rfl rfl rfl [.tmp 2] (congrArg Array.toList Tryz.results63) ?_
 simp only[startT,Nat.reduceAdd]
 have s1:=hsa.num
 have s2:=hsa.den'
 repeat' (first|refine zg ?_|(refine AW.cond rfl ?_ ?_<;>intro hc<;>try simp only[NM]at hc)|refine zr ?_|(refine callV.flat _ yfn_133 (c133 a (Qs.mono hsa (by omega))) rfl rfl ?_)|(refine callV.flat _ yfn_86 (c86w a.num (by omega)) rfl rfl ?_)|refine ⟨by omega,?_⟩|(refine zb ?_ ?_<;>intro hg<;>(try rw[hg])<;>try simp only[NM]at hg)|omega|simp -dsimp (disch:=try exact zo) only[go_sem]|contradiction|rfl)
set_option maxHeartbeats 3200000 in
theorem c230 (a:Rat) (hsa:Qs 67108864 a):CallOK Tryz.prog 230 [.agg (eQ a)] [] (.agg (eQ a)) []:=by
 refine CallOK.flat Tryz.func230 rfl 14 rfl rfl rfl [.cell 2 41] (congrArg Array.toList Tryz.results230) ?_
 simp only[startT,Nat.reduceAdd]
 have s1:=hsa.num
 have s2:=hsa.den'
 repeat' (first|refine zg ?_|(refine AW.cond rfl ?_ ?_<;>intro hc<;>try simp only[NM]at hc)|refine zr ?_|(refine callV.flat _ yfn_133 (c133 a (Qs.mono hsa (by omega))) rfl rfl ?_)|(refine callV.flat _ yfn_135 (c135 a (Qs.mono hsa (by omega))) rfl rfl ?_)|(refine callV.flat (.tup [.agg (eQ (a)),.lit (.bool true)]) yfn_134 (by have:=c134 (a.num) ((a.den:Int)) (by omega) (by omega) (den_ne a);rw[q_self a]at this;exact this) rfl rfl ?_)|refine ⟨by omega,?_⟩|(refine zb ?_ ?_<;>intro hg<;>(try rw[hg])<;>try simp only[NM]at hg)|omega|simp -dsimp (disch:=try exact zo) only[go_sem]|contradiction|rfl)
end Go.Proofs.Vx
namespace Go.Proofs.Vx
open Go Go.Sx Go.Proofs
attribute [local irreducible] fnT CallOK CallFr AW effV callV runP runO oneP oneO gcaseP hid
theorem ypl_103:plT Tryz.prog 103=some [(0,3),(3,3),(6,3)]:=by kernel_rfl
attribute [go_sem] ypl_103
theorem yfn_50:fnT Tryz.prog 50=true:=by kernel_rfl
theorem yfn_51:fnT Tryz.prog 51=true:=by kernel_rfl
theorem yfn_128:fnT Tryz.prog 128=true:=by kernel_rfl
theorem yfn_130:fnT Tryz.prog 130=true:=by kernel_rfl
theorem yfn_131:fnT Tryz.prog 131=true:=by kernel_rfl
theorem yfn_161:fnT Tryz.prog 161=true:=by kernel_rfl
theorem yfn_210:fnT Tryz.prog 210=true:=by kernel_rfl
theorem yfn_211:fnT Tryz.prog 211=true:=by kernel_rfl
theorem yfn_212:fnT Tryz.prog 212=true:=by kernel_rfl
theorem yfn_213:fnT Tryz.prog 213=true:=by kernel_rfl
theorem yfn_246:fnT Tryz.prog 246=true:=by kernel_rfl
theorem yfn_247:fnT Tryz.prog 247=true:=by kernel_rfl
theorem yfn_261:fnT Tryz.prog 261=true:=by kernel_rfl
theorem yfn_262:fnT Tryz.prog 262=true:=by kernel_rfl
theorem yfn_263:fnT Tryz.prog 263=true:=by kernel_rfl
theorem yfn_264:fnT Tryz.prog 264=true:=by kernel_rfl
theorem yfn_270:fnT Tryz.prog 270=true:=by kernel_rfl
theorem c29z (p:Pt) (h:BPt 268435456 p):CallOK Tryz.prog 29 [.agg (eP p)] [] (.agg (eP (nrm p.x p.y p.z p.w))) []:=by
 have:=c29 (Zn p.x) (Zn p.y) (Zn p.z) (Zn p.w) (Zm p.x) (Zm p.y) (Zm p.z) (Zm p.w) h.out.a h.out.b h.out.c h.out.d
 rwa [iv_Z,iv_Z,iv_Z,iv_Z]at this
theorem c29c (p:Pt) (hc:CanP p) (h:BPt 268435456 p):CallOK Tryz.prog 29 [.agg (eP p)] [] (.agg (eP p)) []:=by
 have:=c29z p h
 rwa [nrm_can hc]at this
theorem dot_qs {a b:Geo.V} {k l:Nat} (ha:QV k a) (hb:QV l b):Qs (3*(k+l)+2) (Geo.dot a b):=(((ha.x.mul hb.x).add (ha.y.mul hb.y)).add (ha.z.mul hb.z)).mono (by omega)
set_option maxHeartbeats 8000000 in
theorem c128 (p:Pt) (hc:CanP p) (hb:BPt 268435456 p):CallOK Tryz.prog 128 [.agg (eP p)] [] (.agg (eV (tv p).x (tv p).y (tv p).z)) []:=by
 refine CallOK.flat Tryz.func128 rfl 40 rfl rfl rfl [.cell 2 103] (congrArg Array.toList Tryz.results128) ?_
 simp only[startT,Nat.reduceAdd]
 have c29v:=c29c p hc hb
 have hw:=hc.w
 have hx:=c134 p.x p.w hb.out.a hb.out.d (by omega)
 have hy:=c134 p.y p.w hb.out.b hb.out.d (by omega)
 have hz:=c134 p.z p.w hb.out.c hb.out.d (by omega)
 rw[(tv_div p).1]at hx
 rw[(tv_div p).2.1]at hy
 rw[(tv_div p).2.2]at hz
 clear hc hb hw
 generalize tv p=t at *
 repeat' (first|refine zg ?_|(refine AW.cond rfl ?_ ?_<;>intro hc<;>try simp only[NM]at hc)|refine zr ?_|(refine callV.flat _ yfn_29 c29v rfl rfl ?_)|(first|refine callV.flat _ yfn_134 hx rfl rfl ?_|refine callV.flat _ yfn_134 hy rfl rfl ?_|refine callV.flat _ yfn_134 hz rfl rfl ?_)|refine ⟨by omega,?_⟩|(refine zb ?_ ?_<;>intro hg<;>(try rw[hg])<;>try simp only[NM]at hg)|omega|simp -dsimp (disch:=try exact zo) only[go_sem]|contradiction|rfl)
set_option maxHeartbeats 8000000 in
theorem c50 (p:Pl) (x:Pt) (hp:BPl 268435456 p) (hx:BPt 268435456 x):CallOK Tryz.prog 50 [.agg (eH p),.agg (eP x)] [] (.lit (.int .i64 (sideP p x))) []:=by
 refine CallOK.flat Tryz.func50 rfl 35 rfl rfl rfl [.tmp 4] (congrArg Array.toList Tryz.results50) ?_
 simp only[startT,Nat.reduceAdd]
 obtain ⟨⟨s1,s2,s3,s4⟩⟩:=hp
 obtain ⟨⟨r1,r2,r3,r4⟩⟩:=hx
 have t1:=zs_mul p.d x.w s4 r4
 have t2:=zs_mul p.a x.x s1 r1
 have t3:=zs_mul p.b x.y s2 r2
 have t4:=zs_mul p.c x.z s3 r3
 rw[← Zm_neg (p.d*x.w)]at t1
 have u1:=zs_add _ _ t1 t2
 have u2:=zs_add _ _ u1 (Nat.le_succ_of_le t3)
 have u3:=zs_add _ _ u2 (Nat.le_succ_of_le (Nat.le_succ_of_le t4))
 have t0:(Zm (p.d*x.w)).size≤536870912:=by rw[← Zm_neg];exact t1
 have e:sideP p x=sg (-(p.d*x.w)+p.a*x.x+p.b*x.y+p.c*x.z):=by
  unfold sideP abv
  congr 1
  omega
 rw[e]
 repeat' (first|refine zg ?_|(refine AW.cond rfl ?_ ?_<;>intro hc<;>try simp only[NM]at hc)|refine zr ?_|(first|refine callV.flat _ yfn_112 (c112 (p.d) (x.w) (by omega) (by omega)) rfl rfl ?_|refine callV.flat _ yfn_112 (c112 (p.a) (x.x) (by omega) (by omega)) rfl rfl ?_|refine callV.flat _ yfn_112 (c112 (p.b) (x.y) (by omega) (by omega)) rfl rfl ?_|refine callV.flat _ yfn_112 (c112 (p.c) (x.z) (by omega) (by omega)) rfl rfl ?_)|(refine callV.flat _ yfn_89 (c89w (p.d*x.w) (by omega)) rfl rfl ?_)|(first|refine callV.flat _ yfn_114 (c114 (-(p.d*x.w)) (p.a*x.x) (by omega) (by omega)) rfl rfl ?_|refine callV.flat _ yfn_114 (c114 (-(p.d*x.w)+p.a*x.x) (p.b*x.y) (by omega) (by omega)) rfl rfl ?_|refine callV.flat _ yfn_114 (c114 (-(p.d*x.w)+p.a*x.x+p.b*x.y) (p.c*x.z) (by omega) (by omega)) rfl rfl ?_)|(refine callV.flat _ yfn_86 (c86w (-(p.d*x.w)+p.a*x.x+p.b*x.y+p.c*x.z) (by omega)) rfl rfl ?_)|refine ⟨by omega,?_⟩|(refine zb ?_ ?_<;>intro hg<;>(try rw[hg])<;>try simp only[NM]at hg)|omega|simp -dsimp (disch:=try exact zo) only[go_sem]|contradiction|rfl)
end Go.Proofs.Vx
namespace Go.Proofs.Vx
open Go Go.Sx Go.Proofs
attribute [local irreducible] fnT CallOK CallFr AW effV callV runP runO oneP oneO gcaseP hid
theorem yfn_31:fnT Tryz.prog 31=true:=by kernel_rfl
theorem yfn_162:fnT Tryz.prog 162=true:=by kernel_rfl
theorem yfn_214:fnT Tryz.prog 214=true:=by kernel_rfl
end Go.Proofs.Vx
namespace Go.Proofs.Vx
open Go Go.Sx Go.Proofs
attribute [local irreducible] fnT CallOK CallFr AW effV callV runP runO oneP oneO gcaseP hid
theorem yfn_163:fnT Tryz.prog 163=true:=by kernel_rfl
theorem esP_app (l m:PCell):esP (l++m)=esP l++esP m:=List.flatMap_append
theorem esP_one (p:Pl) (vs:List Pt):esP [(p,vs)]=Geo.edges vs:=by unfold esP;simp
theorem edges_take {α:Type} (vs:List α) (k:Nat) (h:k<vs.length):(Geo.edges vs).take (k+1)=(Geo.edges vs).take k++[(vs[k],vs[(k+1) % vs.length]'(Nat.mod_lt _ (by omega)))]:=by
 have hl:k<(Geo.edges vs).length:=by rw[Geo.edges_length];exact h
 rw[List.take_succ_eq_append_getElem hl,edges_get vs k h hl]
theorem pt_ext {p q:Pt} (h:p.x=q.x∧p.y=q.y∧p.z=q.z∧p.w=q.w):p=q:=by
 obtain ⟨h1,h2,h3,h4⟩:=h
 cases p;cases q
 simp only at h1 h2 h3 h4
 subst h1 h2 h3 h4;rfl
theorem esP_len {l:PCell} {M:Nat} (h:∀ s∈l,s.2.length≤M):(esP l).length≤l.length*M:=by
 induction l with
 | nil=>simp[esP]
 | cons s l ih =>
  have h1:=ih fun t ht=>h t (by simp[ht])
  have h2:=h s (by simp)
  have e:(esP (s::l)).length=s.2.length+(esP l).length:=by unfold esP;rw[List.flatMap_cons,List.length_append,Geo.edges_length]
  rw[e,List.length_cons,Nat.succ_mul]
  omega
end Go.Proofs.Vx
namespace Go.Proofs.Vx
open Go Go.Sx Go.Proofs
attribute [local irreducible] fnT CallOK CallFr AW effV callV runP runO oneP oneO gcaseP hid
theorem yfn_55:fnT Tryz.prog 55=true:=by kernel_rfl
def plv (p:Pl):Value:=.agg #[.bool (Zn p.a),.string (Zm p.a),.bool (Zn p.b),.string (Zm p.b),.bool (Zn p.c),.string (Zm p.c),.bool (Zn p.d),.string (Zm p.d)]
def ev (e:Pt × Pt):Value:=.agg #[.bool (Zn e.1.x),.string (Zm e.1.x),.bool (Zn e.1.y),.string (Zm e.1.y),.bool (Zn e.1.z),.string (Zm e.1.z),.bool (Zn e.1.w),.string (Zm e.1.w),.bool (Zn e.2.x),.string (Zm e.2.x),.bool (Zn e.2.y),.string (Zm e.2.y),.bool (Zn e.2.z),.string (Zm e.2.z),.bool (Zn e.2.w),.string (Zm e.2.w)]
theorem plv_inj {p q:Pl} (h:plv p=plv q):p=q:=by
 unfold plv at h
 simp only[Value.agg.injEq,Array.mk.injEq,List.cons.injEq,Value.bool.injEq,Value.string.injEq,and_true]at h
 obtain ⟨h1,h2,h3,h4,h5,h6,h7,h8⟩:=h
 cases p;cases q
 simp only at *
 rw[eZ_inj h1 h2,eZ_inj h3 h4,eZ_inj h5 h6,eZ_inj h7 h8]
theorem ev_inj {e f:Pt × Pt} (h:ev e=ev f):e=f:=by
 unfold ev at h
 simp only[Value.agg.injEq,Array.mk.injEq,List.cons.injEq,Value.bool.injEq,Value.string.injEq,and_true]at h
 obtain ⟨h1,h2,h3,h4,h5,h6,h7,h8,k1,k2,k3,k4,k5,k6,k7,k8⟩:=h
 obtain ⟨a,b⟩:=e
 obtain ⟨c,d⟩:=f
 simp only at *
 rw[pt_ext (p:=a) (q:=c) ⟨eZ_inj h1 h2,eZ_inj h3 h4,eZ_inj h5 h6,eZ_inj h7 h8⟩,pt_ext (p:=b) (q:=d) ⟨eZ_inj k1 k2,eZ_inj k3 k4,eZ_inj k5 k6,eZ_inj k7 k8⟩]
def mHB (ps:List Pl):List (Value × Value):=ps.map fun p=>(plv p,.bool true)
def mEN (es:List (Pt × Pt)):List (Value × Value):=es.map fun e=>(ev e,.int .i64 1)
theorem mEN_len (es:List (Pt × Pt)):(mEN es).length=es.length:=List.length_map _
theorem mHB_key {ps:List Pl} {p:Pl} (h:p∉ps):plv p∉(mHB ps).map (·.1):=by
 unfold mHB
 rw[List.map_map]
 intro hm
 obtain ⟨q,hq,e⟩:=List.mem_map.1 hm
 exact h (plv_inj e▸hq)
theorem mEN_key {es:List (Pt × Pt)} {e:Pt × Pt} (h:e∉es):ev e∉(mEN es).map (·.1):=by
 unfold mEN
 rw[List.map_map]
 intro hm
 obtain ⟨q,hq,e⟩:=List.mem_map.1 hm
 exact h (ev_inj e▸hq)
theorem mfind_no {es:List (Value × Value)} {k:Value} (h:k∉es.map (·.1)):mfind es k=none:=by
 unfold mfind
 rw[List.find?_eq_none.2]
 ·rfl
 ·intro e he
  simp only[decide_eq_true_eq]
  rintro rfl
  exact h (List.mem_map_of_mem he)
theorem mput_no {es:List (Value × Value)} {k v:Value} (h:k∉es.map (·.1)):mput es k v=es++[(k,v)]:=by
 unfold mput
 rw[if_neg h]
theorem mset_end (es:List (Value × Value)) (n:Nat) (hn:es.length=n) (k v u:Value):mset (es++[(k,v)]) n u=es++[(k,u)]:=by
 unfold mset
 subst hn
 induction es with
 | nil=>rfl
 | cons a es ih=>rw[List.cons_append,List.length_cons,List.modify_succ_cons,ih];rfl
open Classical in
theorem mEN_find {es:List (Pt × Pt)} {e:Pt × Pt} (h:e∈es):mfind (mEN es) (ev e)=some (.int .i64 1):=by
 unfold mfind
 cases hq:(mEN es).find? fun x=>decide (x.1=ev e)with
 | none =>
  have:=List.find?_eq_none.1 hq (ev e,.int .i64 1) (List.mem_map.2 ⟨e,h,rfl⟩)
  simp at this
 | some x =>
  obtain ⟨f,_,rfl⟩:=List.mem_map.1 (List.mem_of_find?_eq_some hq)
  rfl
theorem kl26:WideMaps.KeyLaw Tryz.prog 26:=deep_law_gate (by kernel_rfl) (of_decide_eq_true (by kernel_rfl)) (of_decide_eq_true (by kernel_rfl)) (by kernel_rfl) (by kernel_rfl)
theorem kl138:WideMaps.KeyLaw Tryz.prog 138:=deep_law_gate (by kernel_rfl) (of_decide_eq_true (by kernel_rfl)) (of_decide_eq_true (by kernel_rfl)) (by kernel_rfl) (by kernel_rfl)
theorem yfl_26:fldT Tryz.prog 26=some [(24,0),(24,2),(24,4),(24,6)]:=by kernel_rfl
theorem yfl_138:fldT Tryz.prog 138=some [(51,0),(51,8)]:=by kernel_rfl
theorem yco_26:Tryz.prog.cellsOf 26=8:=by kernel_rfl
theorem yco_138:Tryz.prog.cellsOf 138=16:=by kernel_rfl
theorem key26 (p:Pl) (h:BPl 1073741824 p):(keyOf Tryz.prog 26 (plv p)).isSome=true:=by
 have hml:maxLen=9223372036854775807:=rfl
 have h1:=h.out.a
 have h2:=h.out.b
 have h3:=h.out.c
 have h4:=h.out.d
 refine keyOf_struct (L:=[.bool (Zn p.a),.string (Zm p.a).data.toList,.bool (Zn p.b),.string (Zm p.b).data.toList,.bool (Zn p.c),.string (Zm p.c).data.toList,.bool (Zn p.d),.string (Zm p.d).data.toList]) yfl_26 (by kernel_rfl) (by rw[yco_26];rfl) ?_
 rw[yts,keyLits_struct yfl_26 (by rw[yco_26];rfl)]
 simp only[List.mapM_cons,List.mapM_nil,yco_24,List.drop_zero,List.drop_succ_cons,List.take_succ_cons,List.take_zero,kl24 288 _ _ (show (Zm p.a).size≤maxLen by omega),kl24 288 _ _ (show (Zm p.b).size≤maxLen by omega),kl24 288 _ _ (show (Zm p.c).size≤maxLen by omega),kl24 288 _ _ (show (Zm p.d).size≤maxLen by omega)]
 rfl
theorem kl51k (d:Nat) (p:Pt) (h:BPt 1073741824 p):Tryz.prog.keyLits (d+3) 51 [.bool (Zn p.x),.string (Zm p.x),.bool (Zn p.y),.string (Zm p.y),.bool (Zn p.z),.string (Zm p.z),.bool (Zn p.w),.string (Zm p.w)]=some [.bool (Zn p.x),.string (Zm p.x).data.toList,.bool (Zn p.y),.string (Zm p.y).data.toList,.bool (Zn p.z),.string (Zm p.z).data.toList,.bool (Zn p.w),.string (Zm p.w).data.toList]:=by
 have hml:maxLen=9223372036854775807:=rfl
 have h1:=h.out.a
 have h2:=h.out.b
 have h3:=h.out.c
 have h4:=h.out.d
 rw[keyLits_struct yfl_51 (by rw[yco_51];rfl)]
 simp only[List.mapM_cons,List.mapM_nil,yco_24,List.drop_zero,List.drop_succ_cons,List.take_succ_cons,List.take_zero,kl24 d _ _ (show (Zm p.x).size≤maxLen by omega),kl24 d _ _ (show (Zm p.y).size≤maxLen by omega),kl24 d _ _ (show (Zm p.z).size≤maxLen by omega),kl24 d _ _ (show (Zm p.w).size≤maxLen by omega)]
 rfl
theorem key138 (e:Pt × Pt) (h:BPt 1073741824 e.1) (h':BPt 1073741824 e.2):(keyOf Tryz.prog 138 (ev e)).isSome=true:=by
 have k1:=kl51k 287 e.1 h
 have k2:=kl51k 287 e.2 h'
 refine keyOf_struct (L:=[.bool (Zn e.1.x),.string (Zm e.1.x).data.toList,.bool (Zn e.1.y),.string (Zm e.1.y).data.toList,.bool (Zn e.1.z),.string (Zm e.1.z).data.toList,.bool (Zn e.1.w),.string (Zm e.1.w).data.toList,.bool (Zn e.2.x),.string (Zm e.2.x).data.toList,.bool (Zn e.2.y),.string (Zm e.2.y).data.toList,.bool (Zn e.2.z),.string (Zm e.2.z).data.toList,.bool (Zn e.2.w),.string (Zm e.2.w).data.toList]) yfl_138 (by kernel_rfl) (by rw[yco_138];rfl) ?_
 rw[yts,keyLits_struct yfl_138 (by rw[yco_138];rfl)]
 simp only[List.mapM_cons,List.mapM_nil,yco_51,List.drop_zero,List.drop_succ_cons,List.take_succ_cons,List.take_zero,k1,k2]
 rfl
theorem keysHB {ps:List Pl} (hn:ps.Nodup) (h:∀ p∈ps,BPl 1073741824 p):KeysOk Tryz.prog 26 (mHB ps):=by
 refine ⟨fun e he=>?_,?_⟩
 ·obtain ⟨q,hq,rfl⟩:=List.mem_map.1 he
  exact key26 q (h q hq)
 ·unfold mHB
  rw[List.map_map]
  exact List.Pairwise.map _ (fun a b hab hp=>hab (plv_inj hp)) hn
theorem keysEN {es:List (Pt × Pt)} (hn:es.Nodup) (h:∀ e∈es,BPt 1073741824 e.1∧BPt 1073741824 e.2):KeysOk Tryz.prog 138 (mEN es):=by
 refine ⟨fun e he=>?_,?_⟩
 ·obtain ⟨q,hq,rfl⟩:=List.mem_map.1 he
  exact key138 q (h q hq).1 (h q hq).2
 ·unfold mEN
  rw[List.map_map]
  exact List.Pairwise.map _ (fun a b hab hp=>hab (ev_inj hp)) hn
end Go.Proofs.Vx
