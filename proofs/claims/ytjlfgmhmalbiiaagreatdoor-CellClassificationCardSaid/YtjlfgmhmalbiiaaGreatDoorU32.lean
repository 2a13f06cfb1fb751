import Derived.Test.YtjlfgmhmalbiiaaGreatDoorProg
import Derived.Test.YtjlfgmhmalbiiaaGreatDoorU10
import Derived.Test.YtjlfgmhmalbiiaaGreatDoorU15
import Derived.Test.YtjlfgmhmalbiiaaGreatDoorU31
set_option linter.all false
namespace Go.Proofs.Vx
open Go Go.Sx Go.Proofs
attribute [local irreducible] fnT CallOK CallFr AW effV callV runP runO oneP oneO gcaseP hid
theorem yqq_Nx71:boT Tryz.prog 24=false∧Tryz.prog.eqGuardType Tryz.prog.depth 24=false∧lfT Tryz.prog 30 24=some [.b,.s]:=by and_intros<;>kernel_rfl
attribute [go_sem] yqq_Nx71
theorem yfn_63:fnT Tryz.prog 63=true:=by kernel_rfl
theorem yfn_64:fnT Tryz.prog 64=true:=by kernel_rfl
theorem yfn_112:fnT Tryz.prog 112=true:=by kernel_rfl
theorem yfn_113:fnT Tryz.prog 113=true:=by kernel_rfl
theorem yfn_114:fnT Tryz.prog 114=true:=by kernel_rfl
theorem yfn_129:fnT Tryz.prog 129=true:=by kernel_rfl
theorem yfn_133:fnT Tryz.prog 133=true:=by kernel_rfl
theorem yfn_134:fnT Tryz.prog 134=true:=by kernel_rfl
theorem yfn_135:fnT Tryz.prog 135=true:=by kernel_rfl
theorem yfn_136:fnT Tryz.prog 136=true:=by kernel_rfl
theorem yfn_157:fnT Tryz.prog 157=true:=by kernel_rfl
theorem yfn_181:fnT Tryz.prog 181=true:=by kernel_rfl
theorem yfn_182:fnT Tryz.prog 182=true:=by kernel_rfl
theorem yfn_183:fnT Tryz.prog 183=true:=by kernel_rfl
theorem yfn_230:fnT Tryz.prog 230=true:=by kernel_rfl
theorem yfn_231:fnT Tryz.prog 231=true:=by kernel_rfl
theorem c152z (n:Bool) (k:Nat) (z:Int) (hk:(nb k).size<4611686018427387904) (h:z=if n then -(k:Int)else k):CallOK Tryz.prog 152 [.lit (.bool n),.lit (.string (nb k))] [] (.agg (eZ z)) []:=by
 have:=c152 n (nb k) hk
 have e:iv n (nb k)=z:=by rw[h];unfold iv;rw[nv_nb]
 rwa [e]at this
theorem mulS (x y:Int):x*y=if (!(Zn x == Zn y))=true then -((nv (Zm x)*nv (Zm y):Nat):Int)else ((nv (Zm x)*nv (Zm y):Nat):Int):=by
 have h1:((nv (Zm x)*nv (Zm y):Nat):Int)=((x*y).natAbs:Int):=by rw[nv_Zm,nv_Zm,Int.natAbs_mul]
 rw[h1]
 unfold Zn
 by_cases h:x<0<;>by_cases h':y<0<;>simp[h,h']
 ·have:=Int.mul_nonneg_of_nonpos_of_nonpos (Int.le_of_lt h) (Int.le_of_lt h');omega
 ·have:=Int.mul_nonpos_of_nonpos_of_nonneg (Int.le_of_lt h) (show 0≤y by omega);omega
 ·have:=Int.mul_nonpos_of_nonneg_of_nonpos (show 0≤x by omega) (Int.le_of_lt h');omega
 ·have:=Int.mul_nonneg (show 0≤x by omega) (show 0≤y by omega);omega
theorem nbm (x y:Int):(nb (nv (Zm x)*nv (Zm y))).size≤(Zm x).size+(Zm y).size:=by
 have:=zs_mul x y (Nat.le_refl _) (Nat.le_refl _)
 have e:nv (Zm x)*nv (Zm y)=(x*y).natAbs:=by rw[nv_Zm,nv_Zm,Int.natAbs_mul]
 rw[e];exact this
set_option maxHeartbeats 3200000 in
theorem c112 (x y:Int) (hx:(Zm x).size<549755813888) (hy:(Zm y).size<549755813888):CallOK Tryz.prog 112 [.agg (eZ x),.agg (eZ y)] [] (.agg (eZ (x*y))) []:=by
 refine CallOK.flat Tryz.func112 rfl 16 rfl rfl rfl [.cell 4 24] (congrArg Array.toList Tryz.results112) ?_
 simp only[startT,Nat.reduceAdd]
 have hs:=nbm x y
 repeat' (first|refine zg ?_|(refine AW.cond rfl ?_ ?_<;>intro hc<;>try simp only[NM]at hc)|refine zr ?_|(refine callV.flat _ yfn_173 (c173 (Zm x) (Zm y) (by omega) (by omega)) rfl rfl ?_)|(refine callV.flat (.agg (eZ (x*y))) yfn_152 (c152z _ _ _ (by omega) (mulS x y)) rfl rfl ?_)|refine ⟨by omega,?_⟩|(refine zb ?_ ?_<;>intro hg<;>(try rw[hg])<;>try simp only[NM]at hg)|omega|simp -dsimp (disch:=try exact zo) only[go_sem]|contradiction|rfl)
set_option maxHeartbeats 3200000 in
theorem c175f (a b:ByteArray) (ha:a.size<1099511627776) (hb:b.size<1099511627776) (hle:nv a<nv b):CallOK Tryz.prog 175 [.lit (.string a),.lit (.string b)] [] (.tup [.lit (.string ⟨#[]⟩),.lit (.bool false)]) []:=by
 refine CallOK.flat Tryz.func175 rfl 42 rfl rfl rfl [.tmp 4,.tmp 5] (congrArg Array.toList Tryz.results175) ?_
 simp only[startT,Nat.reduceAdd]
 have c207x:=c207 a b ha hb
 have hc0:cmpN (nv a) (nv b)<0:=by unfold cmpN;rw[if_pos hle];decide
 generalize cmpN (nv a) (nv b)=cm at *
 have k0:(cm<0)=True:=eq_true hc0
 repeat' (first|refine zg ?_|(refine AW.cond rfl ?_ ?_<;>intro hc<;>first|simp only[NM]at hc|omega|skip)|refine zr ?_|(refine callV.flat _ yfn_207 c207x rfl rfl ?_)|refine ⟨by omega,?_⟩|(refine zb ?_ ?_<;>intro hg<;>(try rw[hg])<;>try simp only[NM]at hg)|omega|simp -dsimp (disch:=try exact zo) only[go_sem,k0]|contradiction|rfl)
set_option maxHeartbeats 3200000 in
theorem c114 (x y:Int) (hx:(Zm x).size<549755813888) (hy:(Zm y).size<549755813888):CallOK Tryz.prog 114 [.agg (eZ x),.agg (eZ y)] [] (.agg (eZ (x+y))) []:=by
 refine CallOK.flat Tryz.func114 rfl 45 rfl rfl rfl [.cell 4 24] (congrArg Array.toList Tryz.results114) ?_
 simp only[startT,Nat.reduceAdd]
 have n1:(nb (nv (Zm x)+nv (Zm y))).size≤(Zm x).size+(Zm y).size+1:=by
  rw[nb_size,nv_Zm,nv_Zm,Nat.pow_succ,Nat.pow_add]
  have h1:=natAbs_lt_pow x
  have h2:=natAbs_lt_pow y
  have h3:1≤256 ^ (Zm x).size:=Nat.pow_pos (by decide)
  have h4:1≤256 ^ (Zm y).size:=Nat.pow_pos (by decide)
  have h5:=Nat.mul_le_mul_left (256 ^ (Zm x).size) h4
  have h6:=Nat.mul_le_mul_right (256 ^ (Zm y).size) h3
  omega
 have n2:(nb (nv (Zm x) - nv (Zm y))).size≤(Zm x).size:=Nat.le_trans (nb_mono (Nat.sub_le _ _)) (can_size _)
 have n3:(nb (nv (Zm y) - nv (Zm x))).size≤(Zm y).size:=Nat.le_trans (nb_mono (Nat.sub_le _ _)) (can_size _)
 by_cases hs:Zn x=Zn y
 ·have hT:=eq_true hs
  repeat' (first|refine zg ?_|(refine AW.cond rfl ?_ ?_<;>intro hc<;>try simp only[NM]at hc)|refine zr ?_|(refine callV.flat _ yfn_174 (c174 (Zm x) (Zm y) (by omega) (by omega)) rfl rfl ?_)|(first|refine callV.flat _ yfn_175 ca rfl rfl ?_|refine callV.flat _ yfn_175 cb rfl rfl ?_)|(first|refine callV.flat (.agg (eZ (x+y))) yfn_152 (c152z (Zn x) _ _ (by omega) (add_s1 hs)) rfl rfl ?_|refine callV.flat (.agg (eZ (x+y))) yfn_152 (c152z (Zn x) _ _ (by omega) (add_s2 hs hle)) rfl rfl ?_|refine callV.flat (.agg (eZ (x+y))) yfn_152 (c152z (Zn y) _ _ (by omega) (add_s3 hs hle)) rfl rfl ?_)|refine ⟨by omega,?_⟩|(refine zb ?_ ?_<;>intro hg<;>(try rw[hg])<;>try simp only[NM]at hg)|omega|simp -dsimp (disch:=try exact zo) only[go_sem,hT]|contradiction|rfl)
 ·have hT:=eq_false hs
  by_cases hle:y.natAbs≤x.natAbs
  ·have ca:=c175 (Zm x) (Zm y) (by omega) (by omega) (by rw[nv_Zm,nv_Zm];exact hle)
   have cb:True:=trivial
   repeat' (first|refine zg ?_|(refine AW.cond rfl ?_ ?_<;>intro hc<;>try simp only[NM]at hc)|refine zr ?_|(refine callV.flat _ yfn_174 (c174 (Zm x) (Zm y) (by omega) (by omega)) rfl rfl ?_)|(first|refine callV.flat _ yfn_175 ca rfl rfl ?_|refine callV.flat _ yfn_175 cb rfl rfl ?_)|(first|refine callV.flat (.agg (eZ (x+y))) yfn_152 (c152z (Zn x) _ _ (by omega) (add_s1 hs)) rfl rfl ?_|refine callV.flat (.agg (eZ (x+y))) yfn_152 (c152z (Zn x) _ _ (by omega) (add_s2 hs hle)) rfl rfl ?_|refine callV.flat (.agg (eZ (x+y))) yfn_152 (c152z (Zn y) _ _ (by omega) (add_s3 hs hle)) rfl rfl ?_)|refine ⟨by omega,?_⟩|(refine zb ?_ ?_<;>intro hg<;>(try rw[hg])<;>try simp only[NM]at hg)|omega|simp -dsimp (disch:=try exact zo) only[go_sem,hT]|contradiction|rfl)
  ·have ca:=c175f (Zm x) (Zm y) (by omega) (by omega) (by rw[nv_Zm,nv_Zm];omega)
   have cb:=c175 (Zm y) (Zm x) (by omega) (by omega) (by rw[nv_Zm,nv_Zm];omega)
   repeat' (first|refine zg ?_|(refine AW.cond rfl ?_ ?_<;>intro hc<;>try simp only[NM]at hc)|refine zr ?_|(refine callV.flat _ yfn_174 (c174 (Zm x) (Zm y) (by omega) (by omega)) rfl rfl ?_)|(first|refine callV.flat _ yfn_175 ca rfl rfl ?_|refine callV.flat _ yfn_175 cb rfl rfl ?_)|(first|refine callV.flat (.agg (eZ (x+y))) yfn_152 (c152z (Zn x) _ _ (by omega) (add_s1 hs)) rfl rfl ?_|refine callV.flat (.agg (eZ (x+y))) yfn_152 (c152z (Zn x) _ _ (by omega) (add_s2 hs hle)) rfl rfl ?_|refine callV.flat (.agg (eZ (x+y))) yfn_152 (c152z (Zn y) _ _ (by omega) (add_s3 hs hle)) rfl rfl ?_)|refine ⟨by omega,?_⟩|(refine zb ?_ ?_<;>intro hg<;>(try rw[hg])<;>try simp only[NM]at hg)|omega|simp -dsimp (disch:=try exact zo) only[go_sem,hT]|contradiction|rfl)
theorem c89w (z:Int) (h:(Zm z).size<4611686018427387904):CallOK Tryz.prog 89 [.agg (eZ z)] [] (.agg (eZ (-z))) []:=by
 have:=c89 (Zn z) (Zm z) (by omega)
 rw[iv_Z]at this
 exact this
theorem c86w (z:Int) (h:(Zm z).size<4611686018427387904):CallOK Tryz.prog 86 [.agg (eZ z)] [] (.lit (.int .i64 (sg z))) []:=by
 have:=c86 (Zn z) (Zm z) (by omega)
 rw[iv_Z]at this
 exact this
theorem c85w (z:Int) (h:(Zm z).size<4611686018427387904):CallOK Tryz.prog 85 [.agg (eZ z)] [] (.agg (eZ z)) []:=by
 have:=c85 (Zn z) (Zm z) (by omega)
 rw[iv_Z]at this
 exact this
set_option maxHeartbeats 3200000 in
theorem c133 (q:Rat) (h:Qs 4294967296 q):CallOK Tryz.prog 133 [.agg (eQ q)] [] (.agg (eZ q.num)) []:=by
 refine CallOK.flat Tryz.func133 rfl 9 rfl rfl rfl [.cell 2 24] (congrArg Array.toList Tryz.results133) ?_
 simp only[startT,Nat.reduceAdd]
 have h1:=h.num
 repeat' (first|refine zg ?_|(refine AW.cond rfl ?_ ?_<;>intro hc<;>try simp only[NM]at hc)|refine zr ?_|(refine callV.flat _ yfn_85 (c85w q.num (by omega)) rfl rfl ?_)|refine ⟨by omega,?_⟩|(refine zb ?_ ?_<;>intro hg<;>(try rw[hg])<;>try simp only[NM]at hg)|omega|simp -dsimp (disch:=try exact zo) only[go_sem]|contradiction|rfl)
set_option maxHeartbeats 3200000 in
theorem c136  : CallOK Tryz.prog 136 [] [] (.agg (eZ 1)) []:=by
 refine CallOK.flat Tryz.func136 rfl 2 rfl rfl rfl [.cell 0 24] (congrArg Array.toList Tryz.results136) ?_
 simp only[startT,Nat.reduceAdd]
 repeat' (first|refine zg ?_|(refine AW.cond rfl ?_ ?_<;>intro hc<;>try simp only[NM]at hc)|refine zr ?_|(refine callV.flat _ yfn_87 (c87 1 (by decide) (by decide)) rfl rfl ?_)|refine ⟨by omega,?_⟩|(refine zb ?_ ?_<;>intro hg<;>(try rw[hg])<;>try simp only[NM]at hg)|omega|simp -dsimp (disch:=try exact zo) only[go_sem]|contradiction|rfl)
set_option maxHeartbeats 3200000 in
theorem c135 (q:Rat) (h:Qs 4294967296 q):CallOK Tryz.prog 135 [.agg (eQ q)] [] (.agg (eZ (q.den:Int))) []:=by
 refine CallOK.flat Tryz.func135 rfl 13 rfl rfl rfl [.cell 2 24] (congrArg Array.toList Tryz.results135) ?_
 simp only[startT,Nat.reduceAdd]
 have h2:=h.den
 rw[eZ_nat]
 by_cases hd:q.den=1
 ·have hq:Qd q=⟨#[]⟩:=if_pos hd
  have e:nb (nv (Qd q))=⟨#[]⟩:=by rw[hq,← nb_zero,nv_nb]
  have e1:eZ 1=[.lit (.bool false),.lit (.string (nb q.den))]:=by rw[hd];simp[eZ,Zn,Zm]
  have eT:True:=trivial
  have qs:(Qd q).size=0:=by rw[hq];rfl
  have c85q:=c85 false (Qd q) (by omega)
  have ez:iv false (Qd q)=((nv (Qd q):Nat):Int):=rfl
  rw[ez,eZ_nat,e]at c85q
  have c136v:=c136
  rw[e1]at c136v
  repeat' (first|refine zg ?_|(refine AW.cond rfl ?_ ?_<;>intro hc<;>try simp only[NM]at hc)|refine zr ?_|(refine callV.flat _ yfn_85 c85q rfl rfl ?_)|(refine callV.flat _ yfn_136 c136v rfl rfl ?_)|refine ⟨by omega,?_⟩|(refine zb ?_ ?_<;>intro hg<;>(try rw[hg])<;>try simp only[NM]at hg)|omega|simp -dsimp (disch:=try exact zo) only[go_sem,eT]|contradiction|rfl)
 ·have hq:Qd q=nb q.den:=if_neg hd
  have e:nb (nv (Qd q))=nb q.den:=by rw[hq,nv_nb]
  have eT:(nb q.den=⟨#[]⟩)=False:=eq_false fun h=>q.den_nz ((nb_eq_empty _).1 h)
  have qs:(Qd q).size≤4294967296:=by rw[hq];exact h2
  have c85q:=c85 false (Qd q) (by omega)
  have ez:iv false (Qd q)=((nv (Qd q):Nat):Int):=rfl
  rw[ez,eZ_nat,e]at c85q
  have c136v:True:=trivial
  repeat' (first|refine zg ?_|(refine AW.cond rfl ?_ ?_<;>intro hc<;>try simp only[NM]at hc)|refine zr ?_|(refine callV.flat _ yfn_85 c85q rfl rfl ?_)|(refine callV.flat _ yfn_136 c136v rfl rfl ?_)|refine ⟨by omega,?_⟩|(refine zb ?_ ?_<;>intro hg<;>(try rw[hg])<;>try simp only[NM]at hg)|omega|simp -dsimp (disch:=try exact zo) only[go_sem,eT]|contradiction|rfl)
theorem divInt_zero {n d:Int} (h0:d≠0):(Rat.divInt n d).num=0↔n=0:=by
 constructor
 ·intro e
  have h1:=mk_num (n:=n) h0
  rw[e]at h1
  have h2:=Nat.div_mul_cancel (Nat.gcd_dvd_left n.natAbs d.natAbs)
  rw[h1]at h2
  have:n.natAbs=0:=by rw[← h2];exact Nat.zero_mul _
  omega
 ·rintro rfl
  rw[Rat.zero_divInt];rfl
theorem c88y (n d:Int) (hn:(Zm n).size≤268435456) (hd:(Zm d).size≤268435456):CallOK Tryz.prog 88 [.sl [[.lit (.bool false),.lit (.string (Zm n))],[.lit (.bool false),.lit (.string (Zm d))]]] [] (.agg [.lit (.bool false),.lit (.string (nb (Nat.gcd n.natAbs d.natAbs)))]) []:=by
 have:=c88 [(false,Zm n),(false,Zm d)] (by simp) (fun r hr=>by simp at hr;rcases hr with rfl|rfl<;>assumption)
 have e:gT [(false,Zm n),(false,Zm d)] 2=Nat.gcd n.natAbs d.natAbs:=by
  unfold gT
  simp[nv_Zm]
 rw[show [(false,Zm n),(false,Zm d)].length=2 from rfl,e,eZ_nat]at this
 exact this
theorem c90y (n:Int) (k g:Nat) (hg:0<g) (hd:g∣n.natAbs) (e:n.natAbs / g=k) (h:(Zm n).size≤268435456) (hgs:(nb g).size≤268435456):CallOK Tryz.prog 90 [.agg [.lit (.bool false),.lit (.string (Zm n))],.agg [.lit (.bool false),.lit (.string (nb g))]] [] (.tup [.agg [.lit (.bool false),.lit (.string (nb k))],.agg (eZ 0),.lit (.bool true)]) []:=by
 have:=c90 false (Zm n) g hg (by rw[nv_Zm];exact hd) h hgs
 have e1:iv false (Zm n) / (g:Int)=((k:Nat):Int):=by
  show ((nv (Zm n):Nat):Int) / (g:Int)=_
  rw[nv_Zm,← e,Int.natCast_ediv]
 rw[e1,eZ_nat]at this
 exact this
set_option maxHeartbeats 8000000 in
theorem c134 (n d:Int) (hn:(Zm n).size≤268435456) (hd:(Zm d).size≤268435456) (h0:d≠0):CallOK Tryz.prog 134 [.agg (eZ n),.agg (eZ d)] [] (.tup [.agg (eQ (Rat.divInt n d)),.lit (.bool true)]) []:=by
 refine CallOK.flat Tryz.func134 rfl 57 rfl rfl rfl [.cell 4 41,.tmp 5] (congrArg Array.toList Tryz.results134) ?_
 simp only[startT,Nat.reduceAdd]
 have k0:(Zm d=⟨#[]⟩)=False:=eq_false fun h=>h0 (Zm_empty.1 h)
 have cg:=c88y n d hn hd
 have hG:0<Nat.gcd n.natAbs d.natAbs:=Nat.gcd_pos_of_pos_right _ (by omega)
 have hGs:(nb (Nat.gcd n.natAbs d.natAbs)).size≤268435456:=Nat.le_trans (nb_mono (Nat.gcd_le_right _ (by omega))) hd
 have d1:=c90y n (Rat.divInt n d).num.natAbs _ hG (Nat.gcd_dvd_left _ _) (mk_num h0) hn hGs
 have d2:=c90y d (Rat.divInt n d).den _ hG (Nat.gcd_dvd_right _ _) (mk_den h0) hd hGs
 have e1:nb (Rat.divInt n d).num.natAbs=Zm (Rat.divInt n d).num:=rfl
 have k1:(Zm (Rat.divInt n d).num=⟨#[]⟩)=(n=0):=by rw[Zm_empty];exact propext (divInt_zero h0)
 have k3:n≠0→(!(Zn n == Zn d))=Zn (Rat.divInt n d).num:=fun hn0=>by have:=mk_sgn (n:=n) (d:=d) hn0 h0;rwa [← Bool.beq_eq_decide_eq]at this
 have hQ:eQ (Rat.divInt n d)=[.lit (.bool (Zn (Rat.divInt n d).num)),.lit (.string (Zm (Rat.divInt n d).num)),.lit (.string (Qd (Rat.divInt n d)))]:=rfl
 have k4:n=0→Zn (Rat.divInt n d).num=false:=fun hn0=>by rw[hn0,Rat.zero_divInt];rfl
 have k5:(Rat.divInt n d).den=1→Qd (Rat.divInt n d)=⟨#[]⟩:=fun h=>if_pos h
 have k6:(Rat.divInt n d).den≠1→Qd (Rat.divInt n d)=nb (Rat.divInt n d).den:=fun h=>if_neg h
 have zn1:Zn 1=false:=rfl
 have zm1:Zm 1=nb 1:=rfl
 rw[e1]at d1
 rw[hQ]
 clear hQ e1 hG h0
 generalize Nat.gcd n.natAbs d.natAbs=G at *
 generalize (Rat.divInt n d).num=qn at *
 generalize Qd (Rat.divInt n d)=qd at *
 generalize (Rat.divInt n d).den=qe at *
 by_cases hn0:n=0
 ·rw[eq_true hn0]at k1
  have k3:=(k4 hn0)
  rw[k3]
  by_cases h1:qe=1
  ·have k2:(nb qe=nb 1)=True:=eq_true (by rw[h1])
   rw[k5 h1]
   clear k4 k5 k6 hn0
   have k3:True:=trivial
   repeat' (first|refine zg ?_|(refine AW.cond rfl ?_ ?_<;>intro hc<;>try simp only[NM]at hc)|refine zr ?_|(first|refine callV.flat _ yfn_85 (c85w n (by omega)) rfl rfl ?_|refine callV.flat _ yfn_85 (c85w d (by omega)) rfl rfl ?_)|(refine callV.lend1 _ yfn_88 cg rfl rfl (by simp -dsimp (disch:=try exact zo) only[go_sem]) (.agg _ (by intro c hc;simp only[List.mem_cons,List.not_mem_nil,or_false]at hc;rcases hc with rfl|rfl<;>exact .lit _)) ?_)|(first|refine callV.flat _ yfn_90 d1 rfl rfl ?_|refine callV.flat _ yfn_90 d2 rfl rfl ?_)|(refine callV.flat _ yfn_136 c136 rfl rfl ?_)|refine ⟨by omega,?_⟩|(refine zb ?_ ?_<;>intro hg<;>(try rw[hg])<;>try simp only[NM]at hg)|omega|simp -dsimp (disch:=try exact zo) only[go_sem,k0,k1,k2,k3,zn1,zm1,and_self,true_and]|contradiction|rfl)
  ·have k2:(nb qe=nb 1)=False:=eq_false fun h=>h1 (nb_inj h)
   rw[k6 h1]
   clear k4 k5 k6 hn0
   have k3:True:=trivial
   repeat' (first|refine zg ?_|(refine AW.cond rfl ?_ ?_<;>intro hc<;>try simp only[NM]at hc)|refine zr ?_|(first|refine callV.flat _ yfn_85 (c85w n (by omega)) rfl rfl ?_|refine callV.flat _ yfn_85 (c85w d (by omega)) rfl rfl ?_)|(refine callV.lend1 _ yfn_88 cg rfl rfl (by simp -dsimp (disch:=try exact zo) only[go_sem]) (.agg _ (by intro c hc;simp only[List.mem_cons,List.not_mem_nil,or_false]at hc;rcases hc with rfl|rfl<;>exact .lit _)) ?_)|(first|refine callV.flat _ yfn_90 d1 rfl rfl ?_|refine callV.flat _ yfn_90 d2 rfl rfl ?_)|(refine callV.flat _ yfn_136 c136 rfl rfl ?_)|refine ⟨by omega,?_⟩|(refine zb ?_ ?_<;>intro hg<;>(try rw[hg])<;>try simp only[NM]at hg)|omega|simp -dsimp (disch:=try exact zo) only[go_sem,k0,k1,k2,k3,zn1,zm1,and_self,true_and]|contradiction|rfl)
 ·rw[eq_false hn0]at k1
  have k3:=k3 hn0
  by_cases h1:qe=1
  ·have k2:(nb qe=nb 1)=True:=eq_true (by rw[h1])
   rw[k5 h1]
   clear k4 k5 k6 hn0
   repeat' (first|refine zg ?_|(refine AW.cond rfl ?_ ?_<;>intro hc<;>try simp only[NM]at hc)|refine zr ?_|(first|refine callV.flat _ yfn_85 (c85w n (by omega)) rfl rfl ?_|refine callV.flat _ yfn_85 (c85w d (by omega)) rfl rfl ?_)|(refine callV.lend1 _ yfn_88 cg rfl rfl (by simp -dsimp (disch:=try exact zo) only[go_sem]) (.agg _ (by intro c hc;simp only[List.mem_cons,List.not_mem_nil,or_false]at hc;rcases hc with rfl|rfl<;>exact .lit _)) ?_)|(first|refine callV.flat _ yfn_90 d1 rfl rfl ?_|refine callV.flat _ yfn_90 d2 rfl rfl ?_)|(refine callV.flat _ yfn_136 c136 rfl rfl ?_)|refine ⟨by omega,?_⟩|(refine zb ?_ ?_<;>intro hg<;>(try rw[hg])<;>try simp only[NM]at hg)|omega|simp -dsimp (disch:=try exact zo) only[go_sem,k0,k1,k2,k3,zn1,zm1,and_self,true_and]|contradiction|rfl)
  ·have k2:(nb qe=nb 1)=False:=eq_false fun h=>h1 (nb_inj h)
   rw[k6 h1]
   clear k4 k5 k6 hn0
   repeat' (first|refine zg ?_|(refine AW.cond rfl ?_ ?_<;>intro hc<;>try simp only[NM]at hc)|refine zr ?_|(first|refine callV.flat _ yfn_85 (c85w n (by omega)) rfl rfl ?_|refine callV.flat _ yfn_85 (c85w d (by omega)) rfl rfl ?_)|(refine callV.lend1 _ yfn_88 cg rfl rfl (by simp -dsimp (disch:=try exact zo) only[go_sem]) (.agg _ (by intro c hc;simp only[List.mem_cons,List.not_mem_nil,or_false]at hc;rcases hc with rfl|rfl<;>exact .lit _)) ?_)|(first|refine callV.flat _ yfn_90 d1 rfl rfl ?_|refine callV.flat _ yfn_90 d2 rfl rfl ?_)|(refine callV.flat _ yfn_136 c136 rfl rfl ?_)|refine ⟨by omega,?_⟩|(refine zb ?_ ?_<;>intro hg<;>(try rw[hg])<;>try simp only[NM]at hg)|omega|simp -dsimp (disch:=try exact zo) only[go_sem,k0,k1,k2,k3,zn1,zm1,and_self,true_and]|contradiction|rfl)
set_option maxHeartbeats 8000000 in
theorem c64 (a:Rat) (hsa:Qs 67108864 a) (b:Rat) (hsb:Qs 67108864 b):CallOK Tryz.prog 64 [.agg (eQ a),.agg (eQ b)] [] (.agg (eQ (a+b))) []:=by
 refine CallOK.flat Tryz.func64 rfl 28 rfl rfl rfl [.cell 4 41] (congrArg Array.toList Tryz.results64) ?_
 simp only[startT,Nat.reduceAdd]
 have s1:=hsa.num
 have s2:=hsa.den'
 have s3:=hsb.num
 have s4:=hsb.den'
 have s5:=zs_mul a.num (b.den:Int) s1 s4
 have s6:=zs_mul b.num (a.den:Int) s3 s2
 have s7:=zs_mul (a.den:Int) (b.den:Int) s2 s4
 have s8:=zs_add _ _ s5 s6
 repeat' (first|refine zg ?_|(refine AW.cond rfl ?_ ?_<;>intro hc<;>try simp only[NM]at hc)|refine zr ?_|(first|refine callV.flat _ yfn_133 (c133 a (Qs.mono hsa (by omega))) rfl rfl ?_|refine callV.flat _ yfn_133 (c133 b (Qs.mono hsb (by omega))) rfl rfl ?_)|(first|refine callV.flat _ yfn_135 (c135 a (Qs.mono hsa (by omega))) rfl rfl ?_|refine callV.flat _ yfn_135 (c135 b (Qs.mono hsb (by omega))) rfl rfl ?_)|(first|refine callV.flat _ yfn_112 (c112 (a.num) ((b.den:Int)) (by omega) (by omega)) rfl rfl ?_|refine callV.flat _ yfn_112 (c112 (b.num) ((a.den:Int)) (by omega) (by omega)) rfl rfl ?_|refine callV.flat _ yfn_112 (c112 ((a.den:Int)) ((b.den:Int)) (by omega) (by omega)) rfl rfl ?_)|(refine callV.flat _ yfn_114 (c114 (a.num*(b.den:Int)) (b.num*(a.den:Int)) (by omega) (by omega)) rfl rfl ?_)|(refine callV.flat (.tup [.agg (eQ (a+b)),.lit (.bool true)]) yfn_134 (by have:=c134 (a.num*(b.den:Int)+b.num*(a.den:Int)) ((a.den:Int)*(b.den:Int)) (by omega) (by omega) (den2_ne a b);rw[q_add a b]at this;exact this) rfl rfl ?_)|refine ⟨by omega,?_⟩|(refine zb ?_ ?_<;>intro hg<;>(try rw[hg])<;>try simp only[NM]at hg)|omega|simp -dsimp (disch:=try exact zo) only[go_sem]|contradiction|rfl)
set_option maxHeartbeats 3200000 in
theorem c231 (a:Rat) (hsa:Qs 67108864 a):CallOK Tryz.prog 231 [.agg (eQ a)] [] (.agg (eQ (-a))) []:=by
 refine CallOK.flat Tryz.func231 rfl 15 rfl rfl rfl [.cell 2 41] (congrArg Array.toList Tryz.results231) ?_
 simp only[startT,Nat.reduceAdd]
 have s1:=hsa.num
 have s2:=hsa.den'
 have s3:(Zm (-a.num)).size≤67108864:=by rw[Zm_neg];exact s1
 repeat' (first|refine zg ?_|(refine AW.cond rfl ?_ ?_<;>intro hc<;>try simp only[NM]at hc)|refine zr ?_|(refine callV.flat _ yfn_133 (c133 a (Qs.mono hsa (by omega))) rfl rfl ?_)|(refine callV.flat _ yfn_135 (c135 a (Qs.mono hsa (by omega))) rfl rfl ?_)|(refine callV.flat _ yfn_89 (c89w a.num (by omega)) rfl rfl ?_)|(refine callV.flat (.tup [.agg (eQ (-a)),.lit (.bool true)]) yfn_134 (by have:=c134 (-a.num) ((a.den:Int)) (by omega) (by omega) (den_ne a);rw[q_neg a]at this;exact this) rfl rfl ?_)|refine ⟨by omega,?_⟩|(refine zb ?_ ?_<;>intro hg<;>(try rw[hg])<;>try simp only[NM]at hg)|omega|simp -dsimp (disch:=try exact zo) only[go_sem]|contradiction|rfl)
set_option maxHeartbeats 3200000 in
theorem c183 (a:Rat) (hsa:Qs 67108864 a) (b:Rat) (hsb:Qs 67108864 b):CallOK Tryz.prog 183 [.agg (eQ a),.agg (eQ b)] [] (.agg (eQ (a - b))) []:=by
 refine CallOK.flat Tryz.func183 rfl 9 rfl rfl rfl [.cell 4 41] (congrArg Array.toList Tryz.results183) ?_
 simp only[startT,Nat.reduceAdd]
 repeat' (first|refine zg ?_|(refine AW.cond rfl ?_ ?_<;>intro hc<;>try simp only[NM]at hc)|refine zr ?_|(refine callV.flat _ yfn_231 (c231 b hsb) rfl rfl ?_)|(refine callV.flat (.agg (eQ (a - b))) yfn_64 (by have:=c64 a hsa (-b) hsb.neg;rw[← Rat.sub_eq_add_neg]at this;exact this) rfl rfl ?_)|refine ⟨by omega,?_⟩|(refine zb ?_ ?_<;>intro hg<;>(try rw[hg])<;>try simp only[NM]at hg)|omega|simp -dsimp (disch:=try exact zo) only[go_sem]|contradiction|rfl)
set_option maxHeartbeats 8000000 in
theorem c182 (a:Rat) (hsa:Qs 67108864 a) (b:Rat) (hsb:Qs 67108864 b):CallOK Tryz.prog 182 [.agg (eQ a),.agg (eQ b)] [] (.agg (eQ (a*b))) []:=by
 refine CallOK.flat Tryz.func182 rfl 22 rfl rfl rfl [.cell 4 41] (congrArg Array.toList Tryz.results182) ?_
 simp only[startT,Nat.reduceAdd]
 have s1:=hsa.num
 have s2:=hsa.den'
 have s3:=hsb.num
 have s4:=hsb.den'
 have s5:=zs_mul a.num b.num s1 s3
 have s7:=zs_mul (a.den:Int) (b.den:Int) s2 s4
 repeat' (first|refine zg ?_|(refine AW.cond rfl ?_ ?_<;>intro hc<;>try simp only[NM]at hc)|refine zr ?_|(first|refine callV.flat _ yfn_133 (c133 a (Qs.mono hsa (by omega))) rfl rfl ?_|refine callV.flat _ yfn_133 (c133 b (Qs.mono hsb (by omega))) rfl rfl ?_)|(first|refine callV.flat _ yfn_135 (c135 a (Qs.mono hsa (by omega))) rfl rfl ?_|refine callV.flat _ yfn_135 (c135 b (Qs.mono hsb (by omega))) rfl rfl ?_)|(first|refine callV.flat _ yfn_112 (c112 (a.num) (b.num) (by omega) (by omega)) rfl rfl ?_|refine callV.flat _ yfn_112 (c112 ((a.den:Int)) ((b.den:Int)) (by omega) (by omega)) rfl rfl ?_)|(refine callV.flat (.tup [.agg (eQ (a*b)),.lit (.bool true)]) yfn_134 (by have:=c134 (a.num*b.num) ((a.den:Int)*(b.den:Int)) (by omega) (by omega) (den2_ne a b);rw[q_mul a b]at this;exact this) rfl rfl ?_)|refine ⟨by omega,?_⟩|(refine zb ?_ ?_<;>intro hg<;>(try rw[hg])<;>try simp only[NM]at hg)|omega|simp -dsimp (disch:=try exact zo) only[go_sem]|contradiction|rfl)
set_option maxHeartbeats 8000000 in
theorem c129 (a:Rat) (hsa:Qs 67108864 a) (b:Rat) (hsb:Qs 67108864 b) (h0:b≠0):CallOK Tryz.prog 129 [.agg (eQ a),.agg (eQ b)] [] (.tup [.agg (eQ (a / b)),.lit (.bool true)]) []:=by
 refine CallOK.flat Tryz.func129 rfl 19 rfl rfl rfl [.cell 4 41,.tmp 5] (congrArg Array.toList Tryz.results129) ?_
 simp only[startT,Nat.reduceAdd]
 have s1:=hsa.num
 have s2:=hsa.den'
 have s3:=hsb.num
 have s4:=hsb.den'
 have s5:=zs_mul a.num (b.den:Int) s1 s4
 have s7:=zs_mul (a.den:Int) b.num s2 s3
 have hne:(a.den:Int)*b.num≠0:=Int.mul_ne_zero (den_ne a) (fun h=>h0 (Rat.num_eq_zero.1 h))
 repeat' (first|refine zg ?_|(refine AW.cond rfl ?_ ?_<;>intro hc<;>try simp only[NM]at hc)|refine zr ?_|(first|refine callV.flat _ yfn_133 (c133 a (Qs.mono hsa (by omega))) rfl rfl ?_|refine callV.flat _ yfn_133 (c133 b (Qs.mono hsb (by omega))) rfl rfl ?_)|(first|refine callV.flat _ yfn_135 (c135 a (Qs.mono hsa (by omega))) rfl rfl ?_|refine callV.flat _ yfn_135 (c135 b (Qs.mono hsb (by omega))) rfl rfl ?_)|(first|refine callV.flat _ yfn_112 (c112 (a.num) ((b.den:Int)) (by omega) (by omega)) rfl rfl ?_|refine callV.flat _ yfn_112 (c112 ((a.den:Int)) (b.num) (by omega) (by omega)) rfl rfl ?_)|(refine callV.flat (.tup [.agg (eQ (a / b)),.lit (.bool true)]) yfn_134 (by have:=c134 (a.num*(b.den:Int)) ((a.den:Int)*b.num) (by omega) (by omega) hne;rw[q_div a b]at this;exact this) rfl rfl ?_)|refine ⟨by omega,?_⟩|(refine zb ?_ ?_<;>intro hg<;>(try rw[hg])<;>try simp only[NM]at hg)|omega|simp -dsimp (disch:=try exact zo) only[go_sem]|contradiction|rfl)
set_option maxHeartbeats 3200000 in
theorem c63 (a:Rat) (hsa:Qs 67108864 a):CallOK Tryz.prog 63 [.agg (eQ a)] [] (.lit (.int .i64 (sg a.num))) []:=by
 refine CallOK.flat Tryz.func63 rfl 6 rfl rfl rfl [.tmp 2] (congrArg Array.toList Tryz.results63) ?_
 simp only[startT,Nat.reduceAdd]
 have s1:=hsa.num
 have s2:=hsa.den'
 repeat' (first|refine zg ?_|(refine AW.cond rfl ?_ ?_<;>intro hc<;>try simp only[NM]at hc)|refine zr ?_|(refine callV.flat _ yfn_133 (c133 a (Qs.mono hsa (by omega))) rfl rfl ?_)|(refine callV.flat _ yfn_86 (c86w a.num (by omega)) rfl rfl ?_)|refine ⟨by omega,?_⟩|(refine zb ?_ ?_<;>intro hg<;>(try rw[hg])<;>try simp only[NM]at hg)|omega|simp -dsimp (disch:=try exact zo) only[go_sem]|contradiction|rfl)
set_option maxHeartbeats 3200000 in
theorem c230 (a:Rat) (hsa:Qs 67108864 a):CallOK Tryz.prog 230 [.agg (eQ a)] [] (.agg (eQ a)) []:=by
 refine CallOK.flat Tryz.func230 rfl 14 rfl rfl rfl [.cell 2 41] (congrArg Array.toList Tryz.results230) ?_
 simp only[startT,Nat.reduceAdd]
 have s1:=hsa.num
 have s2:=hsa.den'
 repeat' (first|refine zg ?_|(refine AW.cond rfl ?_ ?_<;>intro hc<;>try simp only[NM]at hc)|refine zr ?_|(refine callV.flat _ yfn_133 (c133 a (Qs.mono hsa (by omega))) rfl rfl ?_)|(refine callV.flat _ yfn_135 (c135 a (Qs.mono hsa (by omega))) rfl rfl ?_)|(refine callV.flat (.tup [.agg (eQ (a)),.lit (.bool true)]) yfn_134 (by have:=c134 (a.num) ((a.den:Int)) (by omega) (by omega) (den_ne a);rw[q_self a]at this;exact this) rfl rfl ?_)|refine ⟨by omega,?_⟩|(refine zb ?_ ?_<;>intro hg<;>(try rw[hg])<;>try simp only[NM]at hg)|omega|simp -dsimp (disch:=try exact zo) only[go_sem]|contradiction|rfl)
set_option maxHeartbeats 3200000 in
theorem c181 (a:Rat) (hsa:Qs 67108864 a):CallOK Tryz.prog 181 [.agg (eQ a)] [] (.tup [.agg (eZ a.num),.agg (eZ (a.den:Int))]) []:=by
 refine CallOK.flat Tryz.func181 rfl 11 rfl rfl rfl [.cell 2 24,.cell 3 24] (congrArg Array.toList Tryz.results181) ?_
 simp only[startT,Nat.reduceAdd]
 repeat' (first|refine zg ?_|(refine AW.cond rfl ?_ ?_<;>intro hc<;>try simp only[NM]at hc)|refine zr ?_|(refine callV.flat _ yfn_230 (c230 a hsa) rfl rfl ?_)|(refine callV.flat _ yfn_133 (c133 a (Qs.mono hsa (by omega))) rfl rfl ?_)|(refine callV.flat _ yfn_135 (c135 a (Qs.mono hsa (by omega))) rfl rfl ?_)|refine ⟨by omega,?_⟩|(refine zb ?_ ?_<;>intro hg<;>(try rw[hg])<;>try simp only[NM]at hg)|omega|simp -dsimp (disch:=try exact zo) only[go_sem]|contradiction|rfl)
end Go.Proofs.Vx
