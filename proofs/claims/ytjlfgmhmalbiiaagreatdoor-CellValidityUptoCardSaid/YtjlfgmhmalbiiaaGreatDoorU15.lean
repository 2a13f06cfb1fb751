import Derived.Test.YtjlfgmhmalbiiaaGreatDoorProg
import Derived.Test.YtjlfgmhmalbiiaaGreatDoorU11
import Derived.Test.YtjlfgmhmalbiiaaGreatDoorU14
set_option linter.all false
namespace Go.Sx
set_option linter.unusedVariables false
def Qd (q:Rat):ByteArray:=if q.den=1 then ⟨#[]⟩else nb q.den
abbrev eQ (q:Rat):List AV:=[.lit (.bool (Zn q.num)),.lit (.string (Zm q.num)),.lit (.string (Qd q))]
theorem nb_one:nb 1=⟨#[1]⟩:=by
 unfold nb
 rw[nbL_pos (by decide),nbL_zero]
 rfl
theorem nb_is_one (k:Nat):(nb k=⟨#[1]⟩)↔k=1:=by
 constructor
 ·intro h;rw[← nb_one]at h;exact nb_inj h
 ·rintro rfl;exact nb_one
theorem mk_den {n d:Int} (hd:d≠0):d.natAbs / Nat.gcd n.natAbs d.natAbs=(Rat.divInt n d).den:=by
 rw[Rat.den_divInt,if_neg hd]
 congr 1
 rw[Int.gcd,Nat.gcd_comm]
theorem mk_num {n d:Int} (hd:d≠0):n.natAbs / Nat.gcd n.natAbs d.natAbs=(Rat.divInt n d).num.natAbs:=by
 rw[Rat.num_divInt]
 have hg:(d.gcd n:Int)∣n:=Int.gcd_dvd_right ..
 have e:d.gcd n=Nat.gcd n.natAbs d.natAbs:=by rw[Int.gcd,Nat.gcd_comm]
 rw[← e]
 have h1:(d.gcd n:Int)∣d.sign*n:=Int.dvd_trans hg (Int.dvd_mul_left ..)
 rw[Int.natAbs_ediv_of_dvd h1,Int.natAbs_mul,Int.natAbs_sign_of_ne_zero hd,Nat.one_mul,Int.natAbs_natCast]
theorem mk_sgn {n d:Int} (hn:n≠0) (hd:d≠0):(!decide (Zn n=Zn d))=Zn (Rat.divInt n d).num:=by
 rw[Rat.num_divInt]
 have hgp:0<d.gcd n:=Int.gcd_pos_of_ne_zero_left _ hd
 obtain ⟨k,hk⟩:(d.gcd n:Int)∣n:=Int.gcd_dvd_right ..
 have e:d.sign*n / (d.gcd n:Int)=d.sign*k:=by
  have:d.sign*n=(d.gcd n:Int)*(d.sign*k):=by
   conv=>lhs;rw[hk]
   rw[Int.mul_left_comm]
  rw[this,Int.mul_ediv_cancel_left _ (by omega)]
 rw[e]
 have hkn:(n<0↔k<0):=by
  constructor
  ·intro h
   apply Int.not_le.1
   intro h2
   have:=Int.mul_nonneg (show (0:Int)≤(d.gcd n:Int) by omega) h2
   omega
  ·intro h
   have:=Int.mul_neg_of_pos_of_neg (show (0:Int)<(d.gcd n:Int) by omega) h
   omega
 have hk0:k≠0:=by intro h;rw[h]at hk;omega
 unfold Zn
 by_cases h1:n<0<;>by_cases h2:d<0
 ·rw[Int.sign_eq_neg_one_of_neg h2];simp[h1,h2];omega
 ·rw[Int.sign_eq_one_of_pos (by omega)];simp[h1,h2];omega
 ·rw[Int.sign_eq_neg_one_of_neg h2];simp[h1,h2];omega
 ·rw[Int.sign_eq_one_of_pos (by omega)];simp[h1,h2];omega
structure Qs (k:Nat) (q:Rat):Prop where
 num:(Zm q.num).size≤k
 den:(nb q.den).size≤k
theorem Qs.mono {k l:Nat} {q:Rat} (h:Qs k q) (hl:k≤l):Qs l q:=⟨Nat.le_trans h.num hl,Nat.le_trans h.den hl⟩
theorem Qs.divInt {n d:Int} {k:Nat} (hd:d≠0) (h1:(Zm n).size≤k) (h2:(Zm d).size≤k):Qs k (Rat.divInt n d):=by
 constructor
 ·refine Nat.le_trans (zs_le ?_) h1
  rw[← mk_num hd];exact Nat.div_le_self _ _
 ·rw[nb_size]
  rw[← mk_den hd]
  exact Nat.lt_of_le_of_lt (Nat.div_le_self _ _) ((Zm_size _ _).1 h2)
theorem Zm_nat (k:Nat):Zm (k:Int)=nb k:=zs_nat k
theorem q_add (a b:Rat):Rat.divInt (a.num*b.den+b.num*a.den) ((a.den:Int)*b.den)=a+b:=by
 rw[Rat.add_def',← Rat.divInt_ofNat];congr 1
theorem q_mul (a b:Rat):Rat.divInt (a.num*b.num) ((a.den:Int)*b.den)=a*b:=by
 rw[Rat.mul_def',← Rat.divInt_ofNat];congr 1
theorem q_neg (a:Rat):Rat.divInt (-a.num) (a.den:Int)=-a:=by
 rw[← Rat.neg_divInt,Rat.num_divInt_den]
theorem q_self (a:Rat):Rat.divInt a.num (a.den:Int)=a:=Rat.num_divInt_den a
theorem q_div (a b:Rat):Rat.divInt (a.num*b.den) ((a.den:Int)*b.num)=a / b:=by
 rw[Rat.div_def,Rat.inv_def]
 conv=>rhs;lhs;rw[← Rat.num_divInt_den a]
 rw[Rat.divInt_mul_divInt]
theorem Qs.add {a b:Rat} {k l:Nat} (ha:Qs k a) (hb:Qs l b):Qs (k+l+1) (a+b):=by
 rw[← q_add]
 have hd:(a.den:Int)*b.den≠0:=by
  have:=Int.mul_pos (show (0:Int)<a.den by have:=a.den_nz;omega) (show (0:Int)<b.den by have:=b.den_nz;omega)
  omega
 refine Qs.divInt hd ?_ ?_
 ·have h1:=zs_mul a.num b.den ha.num (by rw[Zm_nat];exact hb.den)
  have h2:=zs_mul b.num a.den hb.num (by rw[Zm_nat];exact ha.den)
  exact zs_add _ _ h1 (by omega)
 ·have:=zs_mul a.den b.den (by rw[Zm_nat];exact ha.den) (by rw[Zm_nat];exact hb.den)
  omega
theorem Qs.mul {a b:Rat} {k l:Nat} (ha:Qs k a) (hb:Qs l b):Qs (k+l) (a*b):=by
 rw[← q_mul]
 have hd:(a.den:Int)*b.den≠0:=by
  have:=Int.mul_pos (show (0:Int)<a.den by have:=a.den_nz;omega) (show (0:Int)<b.den by have:=b.den_nz;omega)
  omega
 exact Qs.divInt hd (zs_mul _ _ ha.num hb.num) (zs_mul _ _ (by rw[Zm_nat];exact ha.den) (by rw[Zm_nat];exact hb.den))
theorem Qs.neg {a:Rat} {k:Nat} (ha:Qs k a):Qs k (-a):=⟨by rw[Rat.neg_num,Zm_neg];exact ha.num,ha.den⟩
theorem Qs.sub {a b:Rat} {k l:Nat} (ha:Qs k a) (hb:Qs l b):Qs (k+l+1) (a - b):=by
 rw[Rat.sub_eq_add_neg];exact ha.add hb.neg
theorem Qs.div {a b:Rat} {k l:Nat} (ha:Qs k a) (hb:Qs l b) (h0:b≠0):Qs (k+l) (a / b):=by
 rw[← q_div]
 have hb0:b.num≠0:=fun h=>h0 (Rat.num_eq_zero.1 h)
 have hd:(a.den:Int)*b.num≠0:=Int.mul_ne_zero (by have:=a.den_nz;omega) hb0
 exact Qs.divInt hd (zs_mul _ _ ha.num (by rw[Zm_nat];exact hb.den)) (zs_mul _ _ (by rw[Zm_nat];exact ha.den) hb.num)
theorem eQ_zero:eQ 0=[.lit (.bool false),.lit (.string ⟨#[]⟩),.lit (.string ⟨#[]⟩)]:=by simp[eQ,Zn,Zm,nb_zero,Qd]
end Go.Sx
namespace Go.Proofs.Vx
open Go Go.Sx Go.Proofs
attribute [local irreducible] fnT CallOK CallFr AW effV callV runP runO oneP oneO gcaseP hid
theorem yqq_Nx15:agT Tryz.prog 41=some true∧fdT Tryz.prog 41 0=some (0,1,false)∧fdT Tryz.prog 41 1=some (1,1,false)∧fdT Tryz.prog 41 2=some (2,1,false)∧plT Tryz.prog 41=some [(0,1),(1,1),(2,1)]∧szT Tryz.prog 41=some 3∧zeT Tryz.prog 41=some [.lit (.bool false),.lit (.string ⟨#[]⟩),.lit (.string ⟨#[]⟩)]∧zeT Tryz.prog 9=some [.lit (.string ⟨#[]⟩)]:=by and_intros<;>kernel_rfl
attribute [go_sem] yqq_Nx15
theorem yfn_23:fnT Tryz.prog 23=true:=by kernel_rfl
theorem yfn_25:fnT Tryz.prog 25=true:=by kernel_rfl
theorem yfn_68:fnT Tryz.prog 68=true:=by kernel_rfl
theorem yfn_75:fnT Tryz.prog 75=true:=by kernel_rfl
theorem yfn_79:fnT Tryz.prog 79=true:=by kernel_rfl
theorem yfn_80:fnT Tryz.prog 80=true:=by kernel_rfl
theorem yfn_81:fnT Tryz.prog 81=true:=by kernel_rfl
theorem yfn_144:fnT Tryz.prog 144=true:=by kernel_rfl
theorem yfn_146:fnT Tryz.prog 146=true:=by kernel_rfl
theorem yfn_164:fnT Tryz.prog 164=true:=by kernel_rfl
theorem yfn_190:fnT Tryz.prog 190=true:=by kernel_rfl
theorem yfn_192:fnT Tryz.prog 192=true:=by kernel_rfl
theorem yfn_215:fnT Tryz.prog 215=true:=by kernel_rfl
theorem q_int (z:Int):Rat.divInt z 1=(z:Rat):=by rw[show (1:Int)=((1:Nat):Int)from rfl,Rat.divInt_ofNat];exact Rat.mkRat_self (z:Rat)
theorem Zn_nat (k:Nat):Zn (k:Int)=false:=Zn_false (by omega)
theorem eZ_nat (k:Nat):eZ (k:Int)=[.lit (.bool false),.lit (.string (nb k))]:=by simp[eZ,Zn_nat,Zm_nat]
set_option maxHeartbeats 1600000 in
theorem c190 (m g:ByteArray) (hm:m.size<68719476736) (hg:g.size<68719476736):CallOK Tryz.prog 190 [.lit (.string m),.fp [.lit (.string g)]] [] (.lit (.string (nb (nv m / nv g)))) []:=by
 refine CallOK.flat Tryz.func190 rfl 15 rfl rfl rfl [.tmp 3] (congrArg Array.toList Tryz.results190) ?_
 simp only[startT,Nat.reduceAdd]
 repeat' (first|refine zg ?_|(refine AW.cond rfl ?_ ?_<;>intro hc<;>try simp only[NM]at hc)|refine zr ?_|(refine callV.flat _ yfn_191 (c191 m g (by omega) (by omega)) rfl rfl ?_)|refine ⟨by omega,?_⟩|(refine zb ?_ ?_<;>intro hg<;>(try rw[hg])<;>try simp only[NM]at hg)|omega|simp -dsimp (disch:=try exact zo) only[go_sem]|contradiction|rfl)
set_option maxHeartbeats 3200000 in
theorem c144 (n d:Int) (hn:(Zm n).size<68719476736) (hd:(Zm d).size<68719476736):CallOK Tryz.prog 144 [.agg (eZ n),.agg (eZ d)] [] (if d=0 then .tup [.agg (eQ 0),.lit (.bool false)]else .tup [.agg (eQ (Rat.divInt n d)),.lit (.bool true)]) []:=by
 refine CallOK.flat Tryz.func144 rfl 42 rfl rfl (by split<;>rfl) [.cell 4 41,.tmp 5] (congrArg Array.toList Tryz.results144) ?_
 simp only[startT,Nat.reduceAdd]
 by_cases h0:d=0
 ·rw[if_pos h0,eQ_zero]
  have hs1:(sg d=0)=True:=eq_true (sg_zero.2 h0)
  have hs2:True:=trivial
  have hd1:True:=trivial
  have e3:True:=trivial
  repeat' (first|refine zg ?_|(refine AW.cond rfl ?_ ?_<;>intro hc<;>try simp only[NM]at hc)|refine zr ?_|(first|refine callV.flat _ yfn_76 (c76z d (by omega)) rfl rfl ?_|refine callV.flat _ yfn_76 (c76z n (by omega)) rfl rfl ?_)|(refine callV.flat (.lit (.string (nb G))) yfn_189 (hG▸c189 (Zm n) (Zm d) (by omega) (by omega)) rfl rfl ?_)|(first|refine callV.lend (.lit (.string (Zm (Rat.divInt n d).num))) yfn_190 (by simp -dsimp (disch:=try exact zo) only[go_sem];exact e1▸c190 (Zm n) (nb G) (by omega) (by omega)) (by simp -dsimp (disch:=try exact zo) only[go_sem]) (.lit _) ?_|refine callV.lend (.lit (.string (nb (Rat.divInt n d).den))) yfn_190 (by simp -dsimp (disch:=try exact zo) only[go_sem];exact e2▸c190 (Zm d) (nb G) (by omega) (by omega)) (by simp -dsimp (disch:=try exact zo) only[go_sem]) (.lit _) ?_)|refine ⟨by omega,?_⟩|(refine zb ?_ ?_<;>intro hg<;>(try rw[hg])<;>try simp only[NM]at hg)|omega|simp -dsimp (disch:=try exact zo) only[go_sem,hs1,hs2,hd1,e3]|contradiction|rfl)
 ·rw[if_neg h0]
  have hs1:(sg d=0)=False:=eq_false fun h=>h0 (sg_zero.1 h)
  by_cases hn0:n=0
  ·have e0:Rat.divInt n d=0:=by rw[hn0,Rat.zero_divInt]
   rw[e0,eQ_zero]
   have hs2:(sg n=0)=True:=eq_true (sg_zero.2 hn0)
   have hd1:True:=trivial
   have e3:True:=trivial
   repeat' (first|refine zg ?_|(refine AW.cond rfl ?_ ?_<;>intro hc<;>try simp only[NM]at hc)|refine zr ?_|(first|refine callV.flat _ yfn_76 (c76z d (by omega)) rfl rfl ?_|refine callV.flat _ yfn_76 (c76z n (by omega)) rfl rfl ?_)|(refine callV.flat (.lit (.string (nb G))) yfn_189 (hG▸c189 (Zm n) (Zm d) (by omega) (by omega)) rfl rfl ?_)|(first|refine callV.lend (.lit (.string (Zm (Rat.divInt n d).num))) yfn_190 (by simp -dsimp (disch:=try exact zo) only[go_sem];exact e1▸c190 (Zm n) (nb G) (by omega) (by omega)) (by simp -dsimp (disch:=try exact zo) only[go_sem]) (.lit _) ?_|refine callV.lend (.lit (.string (nb (Rat.divInt n d).den))) yfn_190 (by simp -dsimp (disch:=try exact zo) only[go_sem];exact e2▸c190 (Zm d) (nb G) (by omega) (by omega)) (by simp -dsimp (disch:=try exact zo) only[go_sem]) (.lit _) ?_)|refine ⟨by omega,?_⟩|(refine zb ?_ ?_<;>intro hg<;>(try rw[hg])<;>try simp only[NM]at hg)|omega|simp -dsimp (disch:=try exact zo) only[go_sem,hs1,hs2,hd1,e3]|contradiction|rfl)
  ·have hs2:(sg n=0)=False:=eq_false fun h=>hn0 (sg_zero.1 h)
   generalize hG:Nat.gcd (nv (Zm n)) (nv (Zm d))=G
   have hGp:(nb G).size≤(Zm n).size:=by
    rw[nb_size]
    rw[nv_Zm,nv_Zm]at hG
    have:=natAbs_lt_pow n
    have h2:G≤n.natAbs:=by rw[← hG];exact Nat.le_of_dvd (by omega) (Nat.gcd_dvd_left _ _)
    omega
   have e1:nb (nv (Zm n) / nv (nb G))=Zm (Rat.divInt n d).num:=by
    rw[nv_nb,← hG,nv_Zm,nv_Zm,mk_num h0];rfl
   have e2:nb (nv (Zm d) / nv (nb G))=nb (Rat.divInt n d).den:=by
    rw[nv_nb,← hG,nv_Zm,nv_Zm,mk_den h0]
   have e3:(!(Zn n == Zn d))=Zn (Rat.divInt n d).num:=by have:=mk_sgn hn0 h0;rwa [← Bool.beq_eq_decide_eq]at this
   by_cases h1:(Rat.divInt n d).den=1
   ·have hd1:(nb (Rat.divInt n d).den=⟨#[1]⟩)=True:=eq_true ((nb_is_one _).2 h1)
    have hq:eQ (Rat.divInt n d)=[.lit (.bool (Zn (Rat.divInt n d).num)),.lit (.string (Zm (Rat.divInt n d).num)),.lit (.string (⟨#[]⟩))]:=by show [_,_,_]=_;rw[show Qd (Rat.divInt n d)=⟨#[]⟩from if_pos h1]
    rw[hq]
    repeat' (first|refine zg ?_|(refine AW.cond rfl ?_ ?_<;>intro hc<;>try simp only[NM]at hc)|refine zr ?_|(first|refine callV.flat _ yfn_76 (c76z d (by omega)) rfl rfl ?_|refine callV.flat _ yfn_76 (c76z n (by omega)) rfl rfl ?_)|(refine callV.flat (.lit (.string (nb G))) yfn_189 (hG▸c189 (Zm n) (Zm d) (by omega) (by omega)) rfl rfl ?_)|(first|refine callV.lend (.lit (.string (Zm (Rat.divInt n d).num))) yfn_190 (by simp -dsimp (disch:=try exact zo) only[go_sem];exact e1▸c190 (Zm n) (nb G) (by omega) (by omega)) (by simp -dsimp (disch:=try exact zo) only[go_sem]) (.lit _) ?_|refine callV.lend (.lit (.string (nb (Rat.divInt n d).den))) yfn_190 (by simp -dsimp (disch:=try exact zo) only[go_sem];exact e2▸c190 (Zm d) (nb G) (by omega) (by omega)) (by simp -dsimp (disch:=try exact zo) only[go_sem]) (.lit _) ?_)|refine ⟨by omega,?_⟩|(refine zb ?_ ?_<;>intro hg<;>(try rw[hg])<;>try simp only[NM]at hg)|omega|simp -dsimp (disch:=try exact zo) only[go_sem,hs1,hs2,hd1,e3]|contradiction|rfl)
   ·have hd1:(nb (Rat.divInt n d).den=⟨#[1]⟩)=False:=eq_false fun h=>h1 ((nb_is_one _).1 h)
    have hq:eQ (Rat.divInt n d)=[.lit (.bool (Zn (Rat.divInt n d).num)),.lit (.string (Zm (Rat.divInt n d).num)),.lit (.string (nb (Rat.divInt n d).den))]:=by show [_,_,_]=_;rw[show Qd (Rat.divInt n d)=nb (Rat.divInt n d).den from if_neg h1]
    rw[hq]
    repeat' (first|refine zg ?_|(refine AW.cond rfl ?_ ?_<;>intro hc<;>try simp only[NM]at hc)|refine zr ?_|(first|refine callV.flat _ yfn_76 (c76z d (by omega)) rfl rfl ?_|refine callV.flat _ yfn_76 (c76z n (by omega)) rfl rfl ?_)|(refine callV.flat (.lit (.string (nb G))) yfn_189 (hG▸c189 (Zm n) (Zm d) (by omega) (by omega)) rfl rfl ?_)|(first|refine callV.lend (.lit (.string (Zm (Rat.divInt n d).num))) yfn_190 (by simp -dsimp (disch:=try exact zo) only[go_sem];exact e1▸c190 (Zm n) (nb G) (by omega) (by omega)) (by simp -dsimp (disch:=try exact zo) only[go_sem]) (.lit _) ?_|refine callV.lend (.lit (.string (nb (Rat.divInt n d).den))) yfn_190 (by simp -dsimp (disch:=try exact zo) only[go_sem];exact e2▸c190 (Zm d) (nb G) (by omega) (by omega)) (by simp -dsimp (disch:=try exact zo) only[go_sem]) (.lit _) ?_)|refine ⟨by omega,?_⟩|(refine zb ?_ ?_<;>intro hg<;>(try rw[hg])<;>try simp only[NM]at hg)|omega|simp -dsimp (disch:=try exact zo) only[go_sem,hs1,hs2,hd1,e3]|contradiction|rfl)
theorem c144z (n d:Int) (hn:(Zm n).size<68719476736) (hd:(Zm d).size<68719476736) (h:d≠0):CallOK Tryz.prog 144 [.agg (eZ n),.agg (eZ d)] [] (.tup [.agg (eQ (Rat.divInt n d)),.lit (.bool true)]) []:=by
 have:=c144 n d hn hd
 rwa [if_neg h]at this
set_option maxHeartbeats 1600000 in
theorem c75 (q:Rat) (h:Qs 68719476735 q):CallOK Tryz.prog 75 [.agg (eQ q)] [] (.tup [.agg (eZ q.num),.agg (eZ (q.den:Int))]) []:=by
 refine CallOK.flat Tryz.func75 rfl 20 rfl rfl rfl [.cell 2 24,.cell 3 24] (congrArg Array.toList Tryz.results75) ?_
 simp only[startT,Nat.reduceAdd]
 have h1:=h.num
 have h2:=h.den
 rw[eZ_nat]
 have e142:iv (Zn q.num) (Zm q.num)=q.num:=iv_Z _
 by_cases hd:q.den=1
 ·have hq:Qd q=⟨#[]⟩:=if_pos hd
  have e:nb (nv (Qd q))=⟨#[]⟩:=by rw[hq,← nb_zero,nv_nb]
  have e67:eZ 1=[.lit (.bool false),.lit (.string (nb q.den))]:=by rw[hd];simp[eZ,Zn,Zm]
  have eT:True:=trivial
  have qs:(Qd q).size=0:=by rw[hq];rfl
  repeat' (first|refine zg ?_|(refine AW.cond rfl ?_ ?_<;>intro hc<;>try simp only[NM]at hc)|refine zr ?_|(refine callV.flat _ yfn_143 (e▸c143 (Qd q) (by omega)) rfl rfl ?_)|(refine callV.flat _ yfn_67 (e67▸c67 1 (by omega)) rfl rfl ?_)|(refine callV.flat (.agg (eZ q.num)) yfn_142 (c142z q.num (by omega)) rfl rfl ?_)|refine ⟨by omega,?_⟩|(refine zb ?_ ?_<;>intro hg<;>(try rw[hg])<;>try simp only[NM]at hg)|omega|simp -dsimp (disch:=try exact zo) only[go_sem,eT]|contradiction|rfl)
 ·have hq:Qd q=nb q.den:=if_neg hd
  have e:nb (nv (Qd q))=nb q.den:=by rw[hq,nv_nb]
  have eT:(nb q.den=⟨#[]⟩)=False:=eq_false fun h=>q.den_nz ((nb_eq_empty _).1 h)
  have qs:(Qd q).size≤68719476735:=by rw[hq];exact h2
  have e67:True:=trivial
  repeat' (first|refine zg ?_|(refine AW.cond rfl ?_ ?_<;>intro hc<;>try simp only[NM]at hc)|refine zr ?_|(refine callV.flat _ yfn_143 (e▸c143 (Qd q) (by omega)) rfl rfl ?_)|(refine callV.flat _ yfn_67 (e67▸c67 1 (by omega)) rfl rfl ?_)|(refine callV.flat (.agg (eZ q.num)) yfn_142 (c142z q.num (by omega)) rfl rfl ?_)|refine ⟨by omega,?_⟩|(refine zb ?_ ?_<;>intro hg<;>(try rw[hg])<;>try simp only[NM]at hg)|omega|simp -dsimp (disch:=try exact zo) only[go_sem,eT]|contradiction|rfl)
set_option maxHeartbeats 1600000 in
theorem c81 (n d:Int) (hn:(Zm n).size<68719476736) (hd:(Zm d).size<68719476736) (h:d≠0):CallOK Tryz.prog 81 [.agg (eZ n),.agg (eZ d)] [] (.agg (eQ (Rat.divInt n d))) []:=by
 refine CallOK.flat Tryz.func81 rfl 14 rfl rfl rfl [.cell 4 41] (congrArg Array.toList Tryz.results81) ?_
 simp only[startT,Nat.reduceAdd]
 repeat' (first|refine zg ?_|(refine AW.cond rfl ?_ ?_<;>intro hc<;>try simp only[NM]at hc)|refine zr ?_|(refine callV.flat _ yfn_144 (c144z (n) (d) (by omega) (by omega) h) rfl rfl ?_)|refine ⟨by omega,?_⟩|(refine zb ?_ ?_<;>intro hg<;>(try rw[hg])<;>try simp only[NM]at hg)|omega|simp -dsimp (disch:=try exact zo) only[go_sem]|contradiction|rfl)
theorem den_ne (q:Rat):(q.den:Int)≠0:=by have:=q.den_nz;omega
theorem den2_ne (a b:Rat):(a.den:Int)*(b.den:Int)≠0:=Int.mul_ne_zero (den_ne a) (den_ne b)
theorem _root_.Go.Sx.Qs.den' {k:Nat} {q:Rat} (h:Qs k q):(Zm (q.den:Int)).size≤k:=by rw[Zm_nat];exact h.den
set_option maxHeartbeats 1600000 in
theorem c215 (a:Rat) (hsa:Qs 68719476735 a):CallOK Tryz.prog 215 [.agg (eQ a)] [] (.agg (eQ a)) []:=by
 refine CallOK.flat Tryz.func215 rfl 8 rfl rfl rfl [.cell 2 41] (congrArg Array.toList Tryz.results215) ?_
 simp only[startT,Nat.reduceAdd]
 have s1:=hsa.num
 have s2:=hsa.den'
 repeat' (first|refine zg ?_|(refine AW.cond rfl ?_ ?_<;>intro hc<;>try simp only[NM]at hc)|refine zr ?_|(first|refine callV.flat _ yfn_75 (c75 a (by first|exact hsa|exact Qs.mono hsa (by omega))) rfl rfl ?_)|(refine callV.flat (.agg (eQ a)) yfn_81 (by have:=c81 a.num (a.den:Int) (by omega) (by omega) (den_ne a);rw[q_self]at this;exact this) rfl rfl ?_)|refine ⟨by omega,?_⟩|(refine zb ?_ ?_<;>intro hg<;>(try rw[hg])<;>try simp only[NM]at hg)|omega|simp -dsimp (disch:=try exact zo) only[go_sem]|contradiction|rfl)
set_option maxHeartbeats 1600000 in
theorem c164 (a:Rat) (hsa:Qs 68719476735 a):CallOK Tryz.prog 164 [.agg (eQ a)] [] (.tup [.agg (eZ a.num),.agg (eZ (a.den:Int))]) []:=by
 refine CallOK.flat Tryz.func164 rfl 9 rfl rfl rfl [.cell 2 24,.cell 3 24] (congrArg Array.toList Tryz.results164) ?_
 simp only[startT,Nat.reduceAdd]
 repeat' (first|refine zg ?_|(refine AW.cond rfl ?_ ?_<;>intro hc<;>try simp only[NM]at hc)|refine zr ?_|(refine callV.flat _ yfn_215 (c215 a hsa) rfl rfl ?_)|(first|refine callV.flat _ yfn_75 (c75 a (by first|exact hsa|exact Qs.mono hsa (by omega))) rfl rfl ?_)|refine ⟨by omega,?_⟩|(refine zb ?_ ?_<;>intro hg<;>(try rw[hg])<;>try simp only[NM]at hg)|omega|simp -dsimp (disch:=try exact zo) only[go_sem]|contradiction|rfl)
set_option maxHeartbeats 1600000 in
theorem c68 (z:Int) (h:-9223372036854775808≤z∧z<9223372036854775808):CallOK Tryz.prog 68 [.lit (.int .i64 z)] [] (.agg (eQ (z:Rat))) []:=by
 refine CallOK.flat Tryz.func68 rfl 7 rfl rfl rfl [.cell 2 41] (congrArg Array.toList Tryz.results68) ?_
 simp only[startT,Nat.reduceAdd]
 have s1:(Zm z).size≤8:=by rw[Zm_size];omega
 have s2:(Zm 1).size≤8:=by rw[Zm_size];decide
 repeat' (first|refine zg ?_|(refine AW.cond rfl ?_ ?_<;>intro hc<;>try simp only[NM]at hc)|refine zr ?_|(first|refine callV.flat _ yfn_67 (c67 z (by omega)) rfl rfl ?_|refine callV.flat _ yfn_67 (c67 1 (by omega)) rfl rfl ?_)|(refine callV.flat (.agg (eQ ((z:Rat)))) yfn_81 (q_int z▸c81 (z) (1) (by omega) (by omega) (by omega)) rfl rfl ?_)|refine ⟨by omega,?_⟩|(refine zb ?_ ?_<;>intro hg<;>(try rw[hg])<;>try simp only[NM]at hg)|omega|simp -dsimp (disch:=try exact zo) only[go_sem]|contradiction|rfl)
set_option maxHeartbeats 1600000 in
theorem c23 (a:Rat) (hsa:Qs 68719476735 a):CallOK Tryz.prog 23 [.agg (eQ a)] [] (.lit (.int .i64 (sg a.num))) []:=by
 refine CallOK.flat Tryz.func23 rfl 12 rfl rfl rfl [.tmp 2] (congrArg Array.toList Tryz.results23) ?_
 simp only[startT,Nat.reduceAdd]
 have s1:=hsa.num
 repeat' (first|refine zg ?_|(refine AW.cond rfl ?_ ?_<;>intro hc<;>try simp only[NM]at hc)|refine zr ?_|(first|refine callV.flat _ yfn_75 (c75 a (by first|exact hsa|exact Qs.mono hsa (by omega))) rfl rfl ?_)|(refine callV.flat _ yfn_76 (c76z a.num (by omega)) rfl rfl ?_)|refine ⟨by omega,?_⟩|(refine zb ?_ ?_<;>intro hg<;>(try rw[hg])<;>try simp only[NM]at hg)|omega|simp -dsimp (disch:=try exact zo) only[go_sem]|contradiction|rfl)
set_option maxHeartbeats 1600000 in
theorem c192 (a:Rat) (hsa:Qs 68719476734 a):CallOK Tryz.prog 192 [.agg (eQ a)] [] (.agg (eQ (-a))) []:=by
 refine CallOK.flat Tryz.func192 rfl 14 rfl rfl rfl [.cell 2 41] (congrArg Array.toList Tryz.results192) ?_
 simp only[startT,Nat.reduceAdd]
 have s1:=hsa.num
 have s2:=hsa.den'
 have s3:(Zm (-a.num)).size≤68719476734:=by rw[Zm_neg];exact s1
 repeat' (first|refine zg ?_|(refine AW.cond rfl ?_ ?_<;>intro hc<;>try simp only[NM]at hc)|refine zr ?_|(first|refine callV.flat _ yfn_75 (c75 a (by first|exact hsa|exact Qs.mono hsa (by omega))) rfl rfl ?_)|(refine callV.flat _ yfn_73 (c73z a.num (by omega)) rfl rfl ?_)|(refine callV.flat (.agg (eQ (-a))) yfn_81 (q_neg a▸c81 (-a.num) ((a.den:Int)) (by omega) (by omega) (den_ne a)) rfl rfl ?_)|refine ⟨by omega,?_⟩|(refine zb ?_ ?_<;>intro hg<;>(try rw[hg])<;>try simp only[NM]at hg)|omega|simp -dsimp (disch:=try exact zo) only[go_sem]|contradiction|rfl)
set_option maxHeartbeats 1600000 in
theorem c25 (a b:Rat) (hsa:Qs 17179869184 a) (hsb:Qs 17179869184 b):CallOK Tryz.prog 25 [.agg (eQ a),.agg (eQ b)] [] (.agg (eQ (a+b))) []:=by
 refine CallOK.flat Tryz.func25 rfl 30 rfl rfl rfl [.cell 4 41] (congrArg Array.toList Tryz.results25) ?_
 simp only[startT,Nat.reduceAdd]
 have s1:=hsa.num
 have s2:=hsa.den'
 have s3:=hsb.num
 have s4:=hsb.den'
 have s5:=zs_mul a.num (b.den:Int) s1 s4
 have s6:=zs_mul b.num (a.den:Int) s3 s2
 have s7:=zs_mul (a.den:Int) (b.den:Int) s2 s4
 have s8:=zs_add _ _ s5 s6
 repeat' (first|refine zg ?_|(refine AW.cond rfl ?_ ?_<;>intro hc<;>try simp only[NM]at hc)|refine zr ?_|(first|refine callV.flat _ yfn_75 (c75 a (by first|exact hsa|exact Qs.mono hsa (by omega))) rfl rfl ?_|refine callV.flat _ yfn_75 (c75 b (by first|exact hsb|exact Qs.mono hsb (by omega))) rfl rfl ?_)|(first|refine callV.flat _ yfn_83 (c83z (a.num) ((b.den:Int)) (by omega) (by omega)) rfl rfl ?_|refine callV.flat _ yfn_83 (c83z (b.num) ((a.den:Int)) (by omega) (by omega)) rfl rfl ?_|refine callV.flat _ yfn_83 (c83z ((a.den:Int)) ((b.den:Int)) (by omega) (by omega)) rfl rfl ?_)|(refine callV.flat _ yfn_82 (c82z (a.num*(b.den:Int)) (b.num*(a.den:Int)) (by omega) (by omega)) rfl rfl ?_)|(refine callV.flat (.agg (eQ (a+b))) yfn_81 (q_add a b▸c81 (a.num*(b.den:Int)+b.num*(a.den:Int)) ((a.den:Int)*(b.den:Int)) (by omega) (by omega) (den2_ne a b)) rfl rfl ?_)|refine ⟨by omega,?_⟩|(refine zb ?_ ?_<;>intro hg<;>(try rw[hg])<;>try simp only[NM]at hg)|omega|simp -dsimp (disch:=try exact zo) only[go_sem]|contradiction|rfl)
set_option maxHeartbeats 1600000 in
theorem c79 (a b:Rat) (hsa:Qs 17179869184 a) (hsb:Qs 17179869184 b):CallOK Tryz.prog 79 [.agg (eQ a),.agg (eQ b)] [] (.agg (eQ (a*b))) []:=by
 refine CallOK.flat Tryz.func79 rfl 26 rfl rfl rfl [.cell 4 41] (congrArg Array.toList Tryz.results79) ?_
 simp only[startT,Nat.reduceAdd]
 have s1:=hsa.num
 have s2:=hsa.den'
 have s3:=hsb.num
 have s4:=hsb.den'
 have s5:=zs_mul a.num b.num s1 s3
 have s7:=zs_mul (a.den:Int) (b.den:Int) s2 s4
 repeat' (first|refine zg ?_|(refine AW.cond rfl ?_ ?_<;>intro hc<;>try simp only[NM]at hc)|refine zr ?_|(first|refine callV.flat _ yfn_75 (c75 a (by first|exact hsa|exact Qs.mono hsa (by omega))) rfl rfl ?_|refine callV.flat _ yfn_75 (c75 b (by first|exact hsb|exact Qs.mono hsb (by omega))) rfl rfl ?_)|(first|refine callV.flat _ yfn_83 (c83z (a.num) (b.num) (by omega) (by omega)) rfl rfl ?_|refine callV.flat _ yfn_83 (c83z ((a.den:Int)) ((b.den:Int)) (by omega) (by omega)) rfl rfl ?_)|(refine callV.flat (.agg (eQ (a*b))) yfn_81 (q_mul a b▸c81 (a.num*b.num) ((a.den:Int)*(b.den:Int)) (by omega) (by omega) (den2_ne a b)) rfl rfl ?_)|refine ⟨by omega,?_⟩|(refine zb ?_ ?_<;>intro hg<;>(try rw[hg])<;>try simp only[NM]at hg)|omega|simp -dsimp (disch:=try exact zo) only[go_sem]|contradiction|rfl)
set_option maxHeartbeats 1600000 in
theorem c146 (a b:Rat) (hsa:Qs 17179869184 a) (hsb:Qs 17179869184 b):CallOK Tryz.prog 146 [.agg (eQ a),.agg (eQ b)] [] (.agg (eQ (a - b))) []:=by
 refine CallOK.flat Tryz.func146 rfl 9 rfl rfl rfl [.cell 4 41] (congrArg Array.toList Tryz.results146) ?_
 simp only[startT,Nat.reduceAdd]
 repeat' (first|refine zg ?_|(refine AW.cond rfl ?_ ?_<;>intro hc<;>try simp only[NM]at hc)|refine zr ?_|(refine callV.flat _ yfn_192 (c192 b (Qs.mono hsb (by omega))) rfl rfl ?_)|(refine callV.flat (.agg (eQ (a - b))) yfn_25 (by have:=c25 a (-b) hsa hsb.neg;rw[← Rat.sub_eq_add_neg]at this;exact this) rfl rfl ?_)|refine ⟨by omega,?_⟩|(refine zb ?_ ?_<;>intro hg<;>(try rw[hg])<;>try simp only[NM]at hg)|omega|simp -dsimp (disch:=try exact zo) only[go_sem]|contradiction|rfl)
set_option maxHeartbeats 1600000 in
theorem c80 (a b:Rat) (hsa:Qs 17179869184 a) (hsb:Qs 17179869184 b) (h0:b≠0):CallOK Tryz.prog 80 [.agg (eQ a),.agg (eQ b)] [] (.tup [.agg (eQ (a / b)),.lit (.bool true)]) []:=by
 refine CallOK.flat Tryz.func80 rfl 29 rfl rfl rfl [.cell 4 41,.tmp 5] (congrArg Array.toList Tryz.results80) ?_
 simp only[startT,Nat.reduceAdd]
 have s1:=hsa.num
 have s2:=hsa.den'
 have s3:=hsb.num
 have s4:=hsb.den'
 have s5:=zs_mul a.num (b.den:Int) s1 s4
 have s7:=zs_mul (a.den:Int) b.num s2 s3
 repeat' (first|refine zg ?_|(refine AW.cond rfl ?_ ?_<;>intro hc<;>try simp only[NM]at hc)|refine zr ?_|(first|refine callV.flat _ yfn_75 (c75 a (by first|exact hsa|exact Qs.mono hsa (by omega))) rfl rfl ?_|refine callV.flat _ yfn_75 (c75 b (by first|exact hsb|exact Qs.mono hsb (by omega))) rfl rfl ?_)|(first|refine callV.flat _ yfn_83 (c83z (a.num) ((b.den:Int)) (by omega) (by omega)) rfl rfl ?_|refine callV.flat _ yfn_83 (c83z ((a.den:Int)) (b.num) (by omega) (by omega)) rfl rfl ?_)|(refine callV.flat (.tup [.agg (eQ (a / b)),.lit (.bool true)]) yfn_144 (q_div a b▸c144z (a.num*(b.den:Int)) ((a.den:Int)*b.num) (by omega) (by omega) (Int.mul_ne_zero (den_ne a) (fun h=>h0 (Rat.num_eq_zero.1 h)))) rfl rfl ?_)|refine ⟨by omega,?_⟩|(refine zb ?_ ?_<;>intro hg<;>(try rw[hg])<;>try simp only[NM]at hg)|omega|simp -dsimp (disch:=try exact zo) only[go_sem]|contradiction|rfl)
end Go.Proofs.Vx
namespace Go.Sx
set_option linter.unusedVariables false
structure Pt where
 x:Int
 y:Int
 z:Int
 w:Int
deriving DecidableEq
structure Pl where
 a:Int
 b:Int
 c:Int
 d:Int
deriving DecidableEq
abbrev e4 (a b c d:Int):List AV:=[.lit (.bool (Zn a)),.lit (.string (Zm a)),.lit (.bool (Zn b)),.lit (.string (Zm b)),.lit (.bool (Zn c)),.lit (.string (Zm c)),.lit (.bool (Zn d)),.lit (.string (Zm d))]
abbrev eP (p:Pt):List AV:=e4 p.x p.y p.z p.w
abbrev eH (p:Pl):List AV:=e4 p.a p.b p.c p.d
abbrev eV (a b c:Rat):List AV:=[.lit (.bool (Zn a.num)),.lit (.string (Zm a.num)),.lit (.string (Qd a)),.lit (.bool (Zn b.num)),.lit (.string (Zm b.num)),.lit (.string (Qd b)),.lit (.bool (Zn c.num)),.lit (.string (Zm c.num)),.lit (.string (Qd c))]
def g4 (x y z w:Int):Nat:=Nat.gcd (Nat.gcd (Nat.gcd x.natAbs y.natAbs) z.natAbs) w.natAbs
def nz (w:Int):Int:=if w=0 then 1 else w
def turn (w q:Int):Int:=if w<0 then -q else q
def nrm (x y z w:Int):Pt :=
 ⟨turn (nz w) (x / (g4 x y z (nz w):Int)),turn (nz w) (y / (g4 x y z (nz w):Int)),turn (nz w) (z / (g4 x y z (nz w):Int)),turn (nz w) (nz w / (g4 x y z (nz w):Int))⟩
theorem nz_ne (w:Int):nz w≠0:=by unfold nz;split<;>omega
theorem g4_pos {x y z w:Int} (h:w≠0):0<g4 x y z w:=by
 unfold g4
 exact Nat.gcd_pos_of_pos_right _ (by omega)
theorem g4_dvd (x y z w:Int):(g4 x y z w:Int)∣x∧(g4 x y z w:Int)∣y∧(g4 x y z w:Int)∣z∧(g4 x y z w:Int)∣w:=by
 unfold g4
 have h1:=Nat.gcd_dvd_left (Nat.gcd (Nat.gcd x.natAbs y.natAbs) z.natAbs) w.natAbs
 have h2:=Nat.gcd_dvd_right (Nat.gcd (Nat.gcd x.natAbs y.natAbs) z.natAbs) w.natAbs
 have h3:=Nat.gcd_dvd_left (Nat.gcd x.natAbs y.natAbs) z.natAbs
 have h4:=Nat.gcd_dvd_right (Nat.gcd x.natAbs y.natAbs) z.natAbs
 have h5:=Nat.gcd_dvd_left x.natAbs y.natAbs
 have h6:=Nat.gcd_dvd_right x.natAbs y.natAbs
 refine ⟨?_,?_,?_,?_⟩<;>rw[Int.ofNat_dvd_left]
 ·exact Nat.dvd_trans h1 (Nat.dvd_trans h3 h5)
 ·exact Nat.dvd_trans h1 (Nat.dvd_trans h3 h6)
 ·exact Nat.dvd_trans h1 h4
 ·exact h2
theorem zs_turn (w q:Int):(Zm (turn w q)).size=(Zm q).size:=by unfold turn;split<;>simp[Zm_neg]
theorem zs_nz {w:Int} {k:Nat} (h:(Zm w).size≤k) (hk:1≤k):(Zm (nz w)).size≤k:=by
 unfold nz
 split
 ·rw[Zm_size]
  exact Nat.lt_of_lt_of_le (by decide) (Nat.pow_le_pow_right (by decide) hk)
 ·exact h
structure Bs (k:Nat) (a b c d:Int):Prop where
 a:(Zm a).size≤k
 b:(Zm b).size≤k
 c:(Zm c).size≤k
 d:(Zm d).size≤k
theorem zs_exact {x:Int} {g:Nat} (h:(g:Int)∣x) (hg:0<g):(Zm (x / (g:Int))).size≤(Zm x).size:=by
 apply zs_le
 rw[Int.natAbs_ediv_of_dvd h,Int.natAbs_natCast]
 exact Nat.div_le_self _ _
theorem nrm_bs {x y z w:Int} {k:Nat} (h:Bs k x y z w) (hk:1≤k):Bs k (nrm x y z w).x (nrm x y z w).y (nrm x y z w).z (nrm x y z w).w:=by
 have hp:=g4_pos (x:=x) (y:=y) (z:=z) (nz_ne w)
 obtain ⟨d1,d2,d3,d4⟩:=g4_dvd x y z (nz w)
 refine ⟨?_,?_,?_,?_⟩<;>simp only[nrm,zs_turn]
 ·exact Nat.le_trans (zs_exact d1 hp) h.a
 ·exact Nat.le_trans (zs_exact d2 hp) h.b
 ·exact Nat.le_trans (zs_exact d3 hp) h.c
 ·exact Nat.le_trans (zs_exact d4 hp) (zs_nz h.d hk)
def pnrm (a b c d:Int):Pl:=⟨a / (g4 a b c d:Int),b / (g4 a b c d:Int),c / (g4 a b c d:Int),d / (g4 a b c d:Int)⟩
structure CanP (p:Pt):Prop where
 w:0<p.w
 g:g4 p.x p.y p.z p.w=1
theorem nrm_can {p:Pt} (h:CanP p):nrm p.x p.y p.z p.w=p:=by
 have hw:=h.w
 have hz:nz p.w=p.w:=if_neg (by omega)
 have ht:∀ q,turn p.w q=q:=fun q=>if_neg (by omega)
 unfold nrm
 rw[hz,h.g]
 simp only[ht]
 cases p
 simp
theorem g4_comm (k x y z w:Int):g4 (k*x) (k*y) (k*z) (k*w)=k.natAbs*g4 x y z w:=by
 unfold g4
 rw[Int.natAbs_mul,Int.natAbs_mul,Int.natAbs_mul,Int.natAbs_mul,Nat.gcd_mul_left,Nat.gcd_mul_left,Nat.gcd_mul_left]
theorem g4_turn (w x y z v:Int):g4 (turn w x) (turn w y) (turn w z) (turn w v)=g4 x y z v:=by
 unfold turn
 split
 ·unfold g4;simp
 ·rfl
theorem nrm_isCan (x y z w:Int):CanP (nrm x y z w):=by
 have hp:=g4_pos (x:=x) (y:=y) (z:=z) (nz_ne w)
 obtain ⟨d1,d2,d3,d4⟩:=g4_dvd x y z (nz w)
 obtain ⟨x',hx⟩:=d1
 obtain ⟨y',hy⟩:=d2
 obtain ⟨z',hz⟩:=d3
 obtain ⟨w',hw⟩:=d4
 have hnz:=nz_ne w
 have hg:=g4_comm (g4 x y z (nz w):Int) x' y' z' w'
 rw[← hx,← hy,← hz,← hw,Int.natAbs_natCast]at hg
 have h1:g4 x' y' z' w'=1:=by
  have:g4 x y z (nz w)*g4 x' y' z' w'=g4 x y z (nz w)*1:=by omega
  exact Nat.eq_of_mul_eq_mul_left hp this
 have hg0:(g4 x y z (nz w):Int)≠0:=by omega
 have ex : x / (g4 x y z (nz w) : Int) = x' := by conv => lhs; lhs; rw [hx]
                                                  exact Int.mul_ediv_cancel_left _ hg0
 have ey : y / (g4 x y z (nz w) : Int) = y' := by conv => lhs; lhs; rw [hy]
                                                  exact Int.mul_ediv_cancel_left _ hg0
 have ez : z / (g4 x y z (nz w) : Int) = z' := by conv => lhs; lhs; rw [hz]
                                                  exact Int.mul_ediv_cancel_left _ hg0
 have ew : nz w / (g4 x y z (nz w) : Int) = w' := by conv => lhs; lhs; rw [hw]
                                                     exact Int.mul_ediv_cancel_left _ hg0
 refine ⟨?_,?_⟩
 ·simp only[nrm,ew]
  have hGp:(0:Int)<(g4 x y z (nz w):Int):=by omega
  generalize (g4 x y z (nz w):Int)=G at *
  unfold turn
  split
  ·rename_i hlt
   rw[hw]at hlt
   have:¬ 0≤w':=fun h=>by have:=Int.mul_nonneg (Int.le_of_lt hGp) h;omega
   omega
  ·rename_i hlt
   rw[hw]at hlt hnz
   have:¬ w'<0:=fun h=>by have:=Int.mul_neg_of_pos_of_neg hGp h;omega
   have:w'≠0:=fun h=>by rw[h]at hnz;simp at hnz
   omega
 ·simp only[nrm,ex,ey,ez,ew]
  rw[g4_turn,h1]
def cmpP (a b:Pt):Int :=
 if sg (a.x*b.w - b.x*a.w)≠0 then sg (a.x*b.w - b.x*a.w)
 else if sg (a.y*b.w - b.y*a.w)≠0 then sg (a.y*b.w - b.y*a.w)
 else sg (a.z*b.w - b.z*a.w)
def mkP (a b c:Rat):Pt :=
 nrm (a.num*(1*(a.den:Int)*(b.den:Int)*(c.den:Int) / (a.den:Int))) (b.num*(1*(a.den:Int)*(b.den:Int)*(c.den:Int) / (b.den:Int))) (c.num*(1*(a.den:Int)*(b.den:Int)*(c.den:Int) / (c.den:Int))) (1*(a.den:Int)*(b.den:Int)*(c.den:Int))
structure BP (k:Nat) (p:Pt):Prop where
 bs:Bs k p.x p.y p.z p.w
end Go.Sx
