import Derived.Test.YtjlfgmhmalbiiaaGreatDoorProg
import Derived.Test.YtjlfgmhmalbiiaaGreatDoorT10
import Derived.Test.YtjlfgmhmalbiiaaGreatDoorT15
import Derived.Test.YtjlfgmhmalbiiaaGreatDoorT27
import Derived.Test.YtjlfgmhmalbiiaaGreatDoorT31
import Derived.Test.YtjlfgmhmalbiiaaGreatDoorT32
set_option linter.all false
namespace Go.Proofs.Vx
open Go Go.Sx Go.Proofs
attribute [local irreducible] fnT CallOK CallFr AW effV callV runP runO oneP oneO gcaseP hid
theorem yfn_28:fnT Tryz.prog 28=true:=by kernel_rfl
theorem yfn_85:fnT Tryz.prog 85=true:=by kernel_rfl
theorem yfn_87:fnT Tryz.prog 87=true:=by kernel_rfl
theorem yfn_89:fnT Tryz.prog 89=true:=by kernel_rfl
theorem yfn_154:fnT Tryz.prog 154=true:=by kernel_rfl
theorem nbL_step {n m:Nat} {X:List Int} (h:ofI X++nbL m=nbL n) (hm:m≠0):ofI (X++[((m % 256:Nat):Int)])++nbL (m / 256)=nbL n:=by
 rw[nbL_pos hm]at h
 rw[← h]
 unfold ofI
 rw[List.map_append,List.append_assoc]
 rfl
theorem nbL_len {n:Nat} (h:n<18446744073709551616):(nbL n).length≤8:=by
 have:=(Zm_size (n:Int) 8).2 (by simpa using h)
 exact this
set_option maxHeartbeats 8000000 in
theorem c154 (n:Nat) (hn:n<18446744073709551616):CallOK Tryz.prog 154 [.lit (.int .u64 n)] [] (.lit (.string (nb n))) []:=by
 refine CallOK.flat Tryz.func154 rfl 17 rfl rfl rfl [.tmp 2] (congrArg Array.toList Tryz.results154) ?_
 simp only[startT,Nat.reduceAdd]
 have hml:maxLen=9223372036854775807:=rfl
 have hi0:ints .u8 []=[]:=rfl
 repeat' (first|refine zg ?_|(refine AW.cond rfl ?_ ?_<;>intro hc<;>first|simp only[NM]at hc|omega|skip)|refine zr ?_|refine ⟨by omega,?_⟩|(refine zb ?_ ?_<;>intro hg<;>(try rw[hg])<;>try simp only[NM]at hg)|omega|simp -dsimp (disch:=try exact zo) only[go_sem]|contradiction|rfl)
 refine AW.loop (fun z:{p:Nat × List Int // Dig8 p.2∧p.1<18446744073709551616∧ofI p.2++nbL p.1=nbL n}=>⟨[(0,.lit (.int .u64 z.1.1)),(3,.ref 9 0 z.1.2.length z.1.2.length)],[(9,.vec 1 (ints .u8 z.1.2))],40⟩) (fun z=>z.1.1) ⟨(n,[]),fun x hx=>by simp at hx,hn,rfl⟩ (Weak.t4 (by refine ⟨?_,?_,?_,?_⟩<;>simp -dsimp (disch:=try exact zo) only[go_sem,ints_in,hi0,ZC])) ?_
 rintro ⟨⟨m,X⟩,dX,hm,hX⟩
 dsimp only at dX hm hX ⊢
 have hXs:X.length+(nbL m).length=(nbL n).length:=by rw[← hX,List.length_append];simp[ofI]
 have hl8:=nbL_len hn
 by_cases h0:0<m
 ·have hm1:(m:Int) % 256=((m % 256:Nat):Int):=by omega
  have hm2:(m:Int) / 256=((m / 256:Nat):Int):=by omega
  have hlt:m % 256<256:=Nat.mod_lt _ (by decide)
  have dX1:=dig8_app dX (d:=((m % 256:Nat):Int)) (by omega)
  have hst:=nbL_step hX (by omega)
  have hXl:(X++[((m % 256:Nat):Int)]).length=X.length+1:=by simp
  have hdl:m / 256<m:=Nat.div_lt_self h0 (by decide)
  clear hX
  repeat' (first|refine zg ?_|(refine AW.cond rfl ?_ ?_<;>intro hc<;>first|simp only[NM]at hc|omega|skip)|refine zr ?_|refine ⟨by omega,?_⟩|(refine zb ?_ ?_<;>intro hg<;>(try rw[hg])<;>try simp only[NM]at hg)|omega|simp -dsimp (disch:=try exact zo) only[go_sem,hm1,hm2,ints_length,ints_app]|contradiction|rfl)
  all_goals exact AW.stop ⟨⟨(m / 256,X++[((m % 256:Nat):Int)]),dX1,by dsimp only;omega,hst⟩,(Weak.t4 (by refine ⟨?_,?_,?_,?_⟩<;>first|(simp -dsimp (disch:=try exact zo) only[go_sem,ZC,hXl,ints_app,hm1,hm2];done)|(simp -dsimp (disch:=try exact zo) only[go_sem,ints_in,ZC];done))),by dsimp only;omega⟩
 ·obtain rfl:m=0:=by omega
  have hfin:(⟨(ofI X).toArray⟩:ByteArray)=nb n:=by
   unfold nb
   rw[nbL_zero,List.append_nil]at hX
   rw[hX]
  clear hX
  repeat' (first|refine zg ?_|(refine AW.cond rfl ?_ ?_<;>intro hc<;>first|simp only[NM]at hc|omega|skip)|refine zr ?_|refine ⟨by omega,?_⟩|(refine zb ?_ ?_<;>intro hg<;>(try rw[hg])<;>try simp only[NM]at hg)|omega|simp -dsimp (disch:=try exact zo) only[go_sem,ints_length]|contradiction|rfl)
  all_goals
   refine ⟨ofI X,by first|exact ints_enc8 _ dX|(rw[List.take_of_length_le (by first|omega|(rw[ints_length];omega))];exact ints_enc8 _ dX),?_⟩
   repeat' (first|refine zg ?_|(refine AW.cond rfl ?_ ?_<;>intro hc<;>first|simp only[NM]at hc|omega|skip)|refine zr ?_|refine ⟨by omega,?_⟩|(refine zb ?_ ?_<;>intro hg<;>(try rw[hg])<;>try simp only[NM]at hg)|omega|simp -dsimp (disch:=try exact zo) only[go_sem,hfin]|contradiction|rfl)
theorem iv_not (n:Bool) (m:ByteArray):iv (!n) m=-iv n m:=by cases n<;>simp[iv]
set_option maxHeartbeats 1600000 in
theorem c85 (n:Bool) (m:ByteArray) (hm:m.size<4611686018427387904):CallOK Tryz.prog 85 [.agg [.lit (.bool n),.lit (.string m)]] [] (.agg (eZ (iv n m))) []:=by
 refine CallOK.flat Tryz.func85 rfl 8 rfl rfl rfl [.cell 2 24] (congrArg Array.toList Tryz.results85) ?_
 simp only[startT,Nat.reduceAdd]
 have co:=c152 n m hm
 generalize iv n m=z at *
 repeat' (first|refine zg ?_|(refine AW.cond rfl ?_ ?_<;>intro hc<;>first|simp only[NM]at hc|omega|skip)|refine zr ?_|(refine callV.flat _ yfn_152 co rfl rfl ?_)|refine ⟨by omega,?_⟩|(refine zb ?_ ?_<;>intro hg<;>(try rw[hg])<;>try simp only[NM]at hg)|omega|simp -dsimp (disch:=try exact zo) only[go_sem]|contradiction|rfl)
set_option maxHeartbeats 1600000 in
theorem c89 (n:Bool) (m:ByteArray) (hm:m.size<4611686018427387904):CallOK Tryz.prog 89 [.agg [.lit (.bool n),.lit (.string m)]] [] (.agg (eZ (-iv n m))) []:=by
 refine CallOK.flat Tryz.func89 rfl 9 rfl rfl rfl [.cell 2 24] (congrArg Array.toList Tryz.results89) ?_
 simp only[startT,Nat.reduceAdd]
 have co:=c152 (!n) m hm
 rw[iv_not]at co
 generalize -iv n m=z at *
 repeat' (first|refine zg ?_|(refine AW.cond rfl ?_ ?_<;>intro hc<;>first|simp only[NM]at hc|omega|skip)|refine zr ?_|(refine callV.flat _ yfn_152 co rfl rfl ?_)|refine ⟨by omega,?_⟩|(refine zb ?_ ?_<;>intro hg<;>(try rw[hg])<;>try simp only[NM]at hg)|omega|simp -dsimp (disch:=try exact zo) only[go_sem]|contradiction|rfl)
theorem iv_nb (b:Bool) (k:Nat):iv b (nb k)=if b then -(k:Int)else k:=by unfold iv;rw[nv_nb]
set_option maxHeartbeats 1600000 in
theorem c87 (z:Int) (h1:-9223372036854775808≤z) (h2:z<9223372036854775808):CallOK Tryz.prog 87 [.lit (.int .i64 z)] [] (.agg (eZ z)) []:=by
 refine CallOK.flat Tryz.func87 rfl 16 rfl rfl rfl [.cell 2 24] (congrArg Array.toList Tryz.results87) ?_
 simp only[startT,Nat.reduceAdd]
 by_cases h0:z<0
 ·have c4:=c154 (-z).toNat (by omega)
  have co:=c152 true (nb (-z).toNat) (Nat.lt_of_le_of_lt ((nb_size _ 8).2 (by omega)) (by decide))
  have e:iv true (nb (-z).toNat)=z:=by rw[iv_nb];simp only[if_true];omega
  rw[e]at co
  have hk:((-z).toNat:Int)=0 - (z+1)+1:=by omega
  rw[hk]at c4
  generalize nb (-z).toNat=s at *
  clear e hk
  repeat' (first|refine zg ?_|(refine AW.cond rfl ?_ ?_<;>intro hc<;>first|simp only[NM]at hc|omega|skip)|refine zr ?_|(refine callV.flat _ yfn_152 co rfl rfl ?_)|(refine callV.flat _ yfn_154 c4 rfl rfl ?_)|refine ⟨by omega,?_⟩|(refine zb ?_ ?_<;>intro hg<;>(try rw[hg])<;>try simp only[NM]at hg)|omega|simp -dsimp (disch:=try exact zo) only[go_sem]|contradiction|rfl)
 ·have c4:=c154 z.toNat (by omega)
  have co:=c152 false (nb z.toNat) (Nat.lt_of_le_of_lt ((nb_size _ 8).2 (by omega)) (by decide))
  have e:iv false (nb z.toNat)=z:=by rw[iv_nb];simp only[Bool.false_eq_true,if_false];omega
  rw[e]at co
  have hk:(z.toNat:Int)=z:=by omega
  rw[hk]at c4
  generalize nb z.toNat=s at *
  clear e hk
  repeat' (first|refine zg ?_|(refine AW.cond rfl ?_ ?_<;>intro hc<;>first|simp only[NM]at hc|omega|skip)|refine zr ?_|(refine callV.flat _ yfn_152 co rfl rfl ?_)|(refine callV.flat _ yfn_154 c4 rfl rfl ?_)|refine ⟨by omega,?_⟩|(refine zb ?_ ?_<;>intro hg<;>(try rw[hg])<;>try simp only[NM]at hg)|omega|simp -dsimp (disch:=try exact zo) only[go_sem]|contradiction|rfl)
def bigR (r:RP):Bool:=decide (6<r.m1.size)||decide (6<r.m2.size)||decide (6<r.m3.size)||decide (6<r.m4.size)
theorem bigR_not {r:RP} (h:bigR r=false):r.m1.size≤6∧r.m2.size≤6∧r.m3.size≤6∧r.m4.size≤6:=by
 unfold bigR at h
 simp only[Bool.or_eq_false_iff,decide_eq_false_iff_not,Nat.not_lt]at h
 omega
theorem bigR_of {r:RP} (h:6<r.m1.size∨6<r.m2.size∨6<r.m3.size∨6<r.m4.size):bigR r=true:=by
 unfold bigR
 simp only[Bool.or_eq_true,decide_eq_true_eq]
 omega
def greatP (l:List RP):Int:=if l.any bigR then 1 else 0
theorem greatP_at {l:List RP} {i:Nat} (h:i<l.length) (hb:bigR l[i]=true):greatP l=1:=if_pos (List.any_eq_true.2 ⟨_,List.getElem_mem h,hb⟩)
theorem greatP_no {l:List RP} (h:∀ j (hj:j<l.length),bigR l[j]=false):greatP l=0:=by
 unfold greatP
 rw[if_neg]
 rw[Bool.not_eq_true,List.any_eq_false]
 intro s hs
 obtain ⟨j,hj,rfl⟩:=List.mem_iff_getElem.1 hs
 rw[h j hj];decide
set_option maxHeartbeats 8000000 in
theorem c28 (l:List RP) (hn:l.length≤1048576):CallOK Tryz.prog 28 [.sl (eRPs l)] [] (.lit (.int .i64 (greatP l))) []:=by
 refine CallOK.flat Tryz.func28 rfl 38 rfl rfl rfl [.tmp 2] (congrArg Array.toList Tryz.results28) ?_
 simp only[startT,Nat.reduceAdd]
 have hml:maxLen=9223372036854775807:=rfl
 have hl:(eRPs l).length=l.length:=List.length_map _
 repeat' (first|refine zg ?_|(refine AW.cond rfl ?_ ?_<;>intro hc<;>try simp only[NM]at hc)|refine zr ?_|refine ⟨by omega,?_⟩|(refine zb ?_ ?_<;>intro hg<;>(try rw[hg])<;>try simp only[NM]at hg)|omega|simp -dsimp (disch:=try exact zo) only[go_sem,hl]|contradiction|rfl)
 refine AW.loop (fun z:{i:Nat // i≤l.length∧∀ j (hj:j<i) (h:j<l.length),bigR l[j]=false}=>⟨[(7,.lit (.int .i64 z.1)),(6,.lit (.int .i64 l.length)),(5,.sl (eRPs l))],[],60⟩) (fun z=>l.length - z.1) ⟨0,Nat.zero_le _,fun j hj=>by omega⟩ (Weak.t4 (by refine ⟨?_,?_,?_,?_⟩<;>simp -dsimp (disch:=try exact zo) only[go_sem,eRPs_in,ZC])) ?_
 rintro ⟨i,hi,hb⟩
 dsimp only
 by_cases hlt:i<l.length
 ·have es1:=eRPs_getD l i hlt
  by_cases q1:6<l[i].m1.size
  ·rw[greatP_at hlt (bigR_of (by omega))]
   generalize l[i]=r at *
   simp only[eRP]at es1
   have k1:((6:Int)<(r.m1.size:Int))=True:=eq_true (by omega)
   clear hb
   repeat' (first|refine zg ?_|(refine AW.cond rfl ?_ ?_<;>intro hc<;>first|simp only[NM]at hc|omega|skip)|refine zr ?_|refine ⟨by omega,?_⟩|(refine zb ?_ ?_<;>intro hg<;>(try rw[hg])<;>try simp only[NM]at hg)|omega|simp -dsimp (disch:=try exact zo) only[go_sem,hl,es1,ZT,eRPs_in,k1]|contradiction|rfl)
  by_cases q2:6<l[i].m2.size
  ·rw[greatP_at hlt (bigR_of (by omega))]
   generalize l[i]=r at *
   simp only[eRP]at es1
   have k1:((6:Int)<(r.m1.size:Int))=False:=eq_false (by omega)
   have k2:((6:Int)<(r.m2.size:Int))=True:=eq_true (by omega)
   clear hb
   repeat' (first|refine zg ?_|(refine AW.cond rfl ?_ ?_<;>intro hc<;>first|simp only[NM]at hc|omega|skip)|refine zr ?_|refine ⟨by omega,?_⟩|(refine zb ?_ ?_<;>intro hg<;>(try rw[hg])<;>try simp only[NM]at hg)|omega|simp -dsimp (disch:=try exact zo) only[go_sem,hl,es1,ZT,eRPs_in,k1,k2]|contradiction|rfl)
  by_cases q3:6<l[i].m3.size
  ·rw[greatP_at hlt (bigR_of (by omega))]
   generalize l[i]=r at *
   simp only[eRP]at es1
   have k1:((6:Int)<(r.m1.size:Int))=False:=eq_false (by omega)
   have k2:((6:Int)<(r.m2.size:Int))=False:=eq_false (by omega)
   have k3:((6:Int)<(r.m3.size:Int))=True:=eq_true (by omega)
   clear hb
   repeat' (first|refine zg ?_|(refine AW.cond rfl ?_ ?_<;>intro hc<;>first|simp only[NM]at hc|omega|skip)|refine zr ?_|refine ⟨by omega,?_⟩|(refine zb ?_ ?_<;>intro hg<;>(try rw[hg])<;>try simp only[NM]at hg)|omega|simp -dsimp (disch:=try exact zo) only[go_sem,hl,es1,ZT,eRPs_in,k1,k2,k3]|contradiction|rfl)
  by_cases q4:6<l[i].m4.size
  ·rw[greatP_at hlt (bigR_of (by omega))]
   generalize l[i]=r at *
   simp only[eRP]at es1
   have k1:((6:Int)<(r.m1.size:Int))=False:=eq_false (by omega)
   have k2:((6:Int)<(r.m2.size:Int))=False:=eq_false (by omega)
   have k3:((6:Int)<(r.m3.size:Int))=False:=eq_false (by omega)
   have k4:((6:Int)<(r.m4.size:Int))=True:=eq_true (by omega)
   clear hb
   repeat' (first|refine zg ?_|(refine AW.cond rfl ?_ ?_<;>intro hc<;>first|simp only[NM]at hc|omega|skip)|refine zr ?_|refine ⟨by omega,?_⟩|(refine zb ?_ ?_<;>intro hg<;>(try rw[hg])<;>try simp only[NM]at hg)|omega|simp -dsimp (disch:=try exact zo) only[go_sem,hl,es1,ZT,eRPs_in,k1,k2,k3,k4]|contradiction|rfl)
  have hb':∀ j (hj:j<i+1) (h:j<l.length),bigR l[j]=false:=fun j hj h=>by
   by_cases e:j=i
   ·subst e
    cases hbr:bigR l[j]
    ·rfl
    ·unfold bigR at hbr;simp only[Bool.or_eq_true,decide_eq_true_eq]at hbr;omega
   ·exact hb j (by omega) h
  generalize l[i]=r at *
  generalize greatP l=G
  simp only[eRP]at es1
  have k1:((6:Int)<(r.m1.size:Int))=False:=eq_false (by omega)
  have k2:((6:Int)<(r.m2.size:Int))=False:=eq_false (by omega)
  have k3:((6:Int)<(r.m3.size:Int))=False:=eq_false (by omega)
  have k4:((6:Int)<(r.m4.size:Int))=False:=eq_false (by omega)
  clear hb
  replace hb':=Hid.mk hb'
  repeat' (first|refine zg ?_|(refine AW.cond rfl ?_ ?_<;>intro hc<;>first|simp only[NM]at hc|omega|skip)|refine zr ?_|refine ⟨by omega,?_⟩|(refine zb ?_ ?_<;>intro hg<;>(try rw[hg])<;>try simp only[NM]at hg)|omega|simp -dsimp (disch:=try exact zo) only[go_sem,hl,es1,ZT,eRPs_in,k1,k2,k3,k4]|contradiction|rfl)
  all_goals exact AW.stop ⟨⟨i+1,by omega,hb'.out⟩,(Weak.t4 (by refine ⟨?_,?_,?_,?_⟩<;>simp -dsimp (disch:=try exact zo) only[go_sem,eRPs_in,ZC])),by dsimp only;omega⟩
 ·have hil:i=l.length:=by omega
  rw[greatP_no (fun j hj=>hb j (by omega) hj)]
  clear hb
  subst hil
  repeat' (first|refine zg ?_|(refine AW.cond rfl ?_ ?_<;>intro hc<;>first|simp only[NM]at hc|omega|skip)|refine zr ?_|refine ⟨by omega,?_⟩|(refine zb ?_ ?_<;>intro hg<;>(try rw[hg])<;>try simp only[NM]at hg)|omega|simp -dsimp (disch:=try exact zo) only[go_sem,hl]|contradiction|rfl)
end Go.Proofs.Vx
namespace Go.Proofs.Vx
open Go Go.Sx Go.Proofs
attribute [local irreducible] fnT CallOK CallFr AW effV callV runP runO oneP oneO gcaseP hid
theorem yfn_29:fnT Tryz.prog 29=true:=by kernel_rfl
theorem c86z (z:Int) (h:(Zm z).size≤268435456):CallOK Tryz.prog 86 [.agg (eZ z)] [] (.lit (.int .i64 (sg z))) []:=by
 have:=c86 (Zn z) (Zm z) (by omega)
 rw[iv_Z]at this
 exact this
theorem c89z (z:Int) (h:(Zm z).size≤268435456):CallOK Tryz.prog 89 [.agg (eZ z)] [] (.agg (eZ (-z))) []:=by
 have:=c89 (Zn z) (Zm z) (by omega)
 rw[iv_Z]at this
 exact this
theorem c90z (z:Int) (g:Nat) (hg:0<g) (hd:(g:Int)∣z) (h:(Zm z).size≤268435456) (hgs:(nb g).size≤268435456):CallOK Tryz.prog 90 [.agg (eZ z),.agg [.lit (.bool false),.lit (.string (nb g))]] [] (.tup [.agg (eZ (z / (g:Int))),.agg (eZ 0),.lit (.bool true)]) []:=by
 have:=c90 (Zn z) (Zm z) g hg (by rw[nv_Zm];exact Int.ofNat_dvd_left.1 hd) h hgs
 rw[iv_Z]at this
 exact this
theorem c88z (x y z w : Int) (h1 : (Zm x).size ≤ 268435456) (h2 : (Zm y).size ≤ 268435456) (h3 : (Zm z).size ≤ 268435456) (h4 : (Zm w).size ≤ 268435456) :
  CallOK Tryz.prog 88 [.sl [eZ x,eZ y,eZ z,eZ w]] [] (.agg [.lit (.bool false),.lit (.string (nb (g4 x y z w)))]) []:=by
 have:=c88x (Zn x) (Zn y) (Zn z) (Zn w) (Zm x) (Zm y) (Zm z) (Zm w) h1 h2 h3 h4
 simp only[iv_Z]at this
 exact this
theorem g4_size {x y z w:Int} {k:Nat} (hx:(Zm x).size≤k) (hy:(Zm y).size≤k) (hz:(Zm z).size≤k) (hw:(Zm w).size≤k):(nb (g4 x y z w)).size≤k:=by
 unfold g4
 rw[← nv_Zm x,← nv_Zm y,← nv_Zm z,← nv_Zm w]
 exact gcd_size (gcd_size (gcd_size (Nat.le_trans (can_size _) hx) (Nat.le_trans (can_size _) hy)) (Nat.le_trans (can_size _) hz)) (Nat.le_trans (can_size _) hw)
theorem iv_zs {n:Bool} {m:ByteArray} {k:Nat} (h:m.size≤k):(Zm (iv n m)).size≤k:=Nat.le_trans (zs_iv n m) h
set_option maxRecDepth 20000 in
set_option maxHeartbeats 16000000 in
theorem c29 (n1 n2 n3 n4:Bool) (m1 m2 m3 m4:ByteArray) (h1:m1.size≤268435456) (h2:m2.size≤268435456) (h3:m3.size≤268435456) (h4:m4.size≤268435456):CallOK Tryz.prog 29 [.agg [.lit (.bool n1),.lit (.string m1),.lit (.bool n2),.lit (.string m2),.lit (.bool n3),.lit (.string m3),.lit (.bool n4),.lit (.string m4)]] [] (.agg (eP (nrm (iv n1 m1) (iv n2 m2) (iv n3 m3) (iv n4 m4)))) []:=by
 refine CallOK.flat Tryz.func29 rfl 76 rfl rfl rfl [.cell 2 51] (congrArg Array.toList Tryz.results29) ?_
 simp only[startT,Nat.reduceAdd]
 have hml:maxLen=9223372036854775807:=rfl
 have N1:=c85 n1 m1 (by omega)
 have N2:=c85 n2 m2 (by omega)
 have N3:=c85 n3 m3 (by omega)
 have N4:=c85 n4 m4 (by omega)
 have zx:=iv_zs (n:=n1) h1
 have zy:=iv_zs (n:=n2) h2
 have zz:=iv_zs (n:=n3) h3
 have zw:=iv_zs (n:=n4) h4
 generalize iv n1 m1=x at *
 generalize iv n2 m2=y at *
 generalize iv n3 m3=z at *
 generalize iv n4 m4=w at *
 have s0:=c86z w zw
 have zW:(Zm (nz w)).size≤268435456:=zs_nz zw (by decide)
 have sW:=c86z (nz w) zW
 have cg:=c88z x y z (nz w) zx zy zz zW
 obtain ⟨e1,e2,e3,e4'⟩:=g4_dvd x y z (nz w)
 have hG:=g4_pos (x:=x) (y:=y) (z:=z) (nz_ne w)
 have hGs:=g4_size zx zy zz zW
 unfold nrm
 unfold turn
 by_cases hw0:w=0
 ·have hz:nz w=1:=if_pos hw0
  have k0:(sg w=0)=True:=eq_true (sg_zero.2 hw0)
  have c1:=c87 1 (by decide) (by decide)
  simp only[hz]at s0 zW sW cg e1 e2 e3 e4' hG hGs ⊢
  have kW:(sg 1<0)=False:=eq_false (by decide)
  have hn:¬ (1:Int)<0:=by decide
  simp only[if_neg hn]
  have t1:True:=trivial
  have d1:=c90z x _ hG e1 zx hGs
  have t2:True:=trivial
  have d2:=c90z y _ hG e2 zy hGs
  have t3:True:=trivial
  have d3:=c90z z _ hG e3 zz hGs
  have t4:True:=trivial
  have d4:=c90z 1 _ hG e4' zW hGs
  clear e1 e2 e3 e4' hG hGs zx zy zz zw zW hz
  generalize g4 x y z 1=G at *
  clear hw0
  repeat' (first|refine zg ?_|refine AW.unroll 6 ?_|(refine AW.cond rfl ?_ ?_<;>intro hc<;>first|simp only[NM]at hc|omega|skip)|refine zr ?_|(first|refine callV.flat _ yfn_85 N1 rfl rfl ?_|refine callV.flat _ yfn_85 N2 rfl rfl ?_|refine callV.flat _ yfn_85 N3 rfl rfl ?_|refine callV.flat _ yfn_85 N4 rfl rfl ?_)|(first|refine callV.flat _ yfn_86 sW rfl rfl ?_|refine callV.flat _ yfn_86 s0 rfl rfl ?_)|(refine callV.flat _ yfn_87 c1 rfl rfl ?_)|(refine callV.lend1 _ yfn_88 cg rfl rfl (by simp -dsimp (disch:=try exact zo) only[go_sem,eZ]) (.agg _ (by intro c hc;simp only[List.mem_cons,List.not_mem_nil,or_false]at hc;rcases hc with rfl|rfl<;>exact .lit _)) ?_)|(first|refine callV.flat _ yfn_89 t1 rfl rfl ?_|refine callV.flat _ yfn_89 t2 rfl rfl ?_|refine callV.flat _ yfn_89 t3 rfl rfl ?_|refine callV.flat _ yfn_89 t4 rfl rfl ?_)|(first|refine callV.flat _ yfn_90 d1 rfl rfl ?_|refine callV.flat _ yfn_90 d2 rfl rfl ?_|refine callV.flat _ yfn_90 d3 rfl rfl ?_|refine callV.flat _ yfn_90 d4 rfl rfl ?_)|refine ⟨by omega,?_⟩|(refine zb ?_ ?_<;>intro hg<;>(try rw[hg])<;>try simp only[NM]at hg)|omega|simp -dsimp (disch:=try exact zo) only[go_sem,k0,kW]|contradiction|rfl)
 ·have hz:nz w=w:=if_neg hw0
  have k0:(sg w=0)=False:=eq_false fun h=>hw0 (sg_zero.1 h)
  have c1:True:=trivial
  simp only[hz]at s0 zW sW cg e1 e2 e3 e4' hG hGs ⊢
  by_cases hn:w<0
  ·have kW:(sg w<0)=True:=eq_true (sg_neg.2 hn)
   simp only[if_pos hn]
   have t1:=c89z x zx
   have d1:=c90z (-x) _ hG (Int.dvd_neg.2 e1) (Nat.le_trans (zs_le (by simp)) zx) hGs
   rw[Int.neg_ediv_of_dvd e1]at d1
   have t2:=c89z y zy
   have d2:=c90z (-y) _ hG (Int.dvd_neg.2 e2) (Nat.le_trans (zs_le (by simp)) zy) hGs
   rw[Int.neg_ediv_of_dvd e2]at d2
   have t3:=c89z z zz
   have d3:=c90z (-z) _ hG (Int.dvd_neg.2 e3) (Nat.le_trans (zs_le (by simp)) zz) hGs
   rw[Int.neg_ediv_of_dvd e3]at d3
   have t4:=c89z w zW
   have d4:=c90z (-w) _ hG (Int.dvd_neg.2 e4') (Nat.le_trans (zs_le (by simp)) zW) hGs
   rw[Int.neg_ediv_of_dvd e4']at d4
   clear e1 e2 e3 e4' hG hGs zx zy zz zw zW hz
   generalize g4 x y z w=G at *
   clear hw0 hn
   repeat' (first|refine zg ?_|refine AW.unroll 6 ?_|(refine AW.cond rfl ?_ ?_<;>intro hc<;>first|simp only[NM]at hc|omega|skip)|refine zr ?_|(first|refine callV.flat _ yfn_85 N1 rfl rfl ?_|refine callV.flat _ yfn_85 N2 rfl rfl ?_|refine callV.flat _ yfn_85 N3 rfl rfl ?_|refine callV.flat _ yfn_85 N4 rfl rfl ?_)|(first|refine callV.flat _ yfn_86 sW rfl rfl ?_|refine callV.flat _ yfn_86 s0 rfl rfl ?_)|(refine callV.flat _ yfn_87 c1 rfl rfl ?_)|(refine callV.lend1 _ yfn_88 cg rfl rfl (by simp -dsimp (disch:=try exact zo) only[go_sem,eZ]) (.agg _ (by intro c hc;simp only[List.mem_cons,List.not_mem_nil,or_false]at hc;rcases hc with rfl|rfl<;>exact .lit _)) ?_)|(first|refine callV.flat _ yfn_89 t1 rfl rfl ?_|refine callV.flat _ yfn_89 t2 rfl rfl ?_|refine callV.flat _ yfn_89 t3 rfl rfl ?_|refine callV.flat _ yfn_89 t4 rfl rfl ?_)|(first|refine callV.flat _ yfn_90 d1 rfl rfl ?_|refine callV.flat _ yfn_90 d2 rfl rfl ?_|refine callV.flat _ yfn_90 d3 rfl rfl ?_|refine callV.flat _ yfn_90 d4 rfl rfl ?_)|refine ⟨by omega,?_⟩|(refine zb ?_ ?_<;>intro hg<;>(try rw[hg])<;>try simp only[NM]at hg)|omega|simp -dsimp (disch:=try exact zo) only[go_sem,k0,kW]|contradiction|rfl)
  ·have kW:(sg w<0)=False:=eq_false fun h=>hn (sg_neg.1 h)
   simp only[if_neg hn]
   have t1:True:=trivial
   have d1:=c90z x _ hG e1 zx hGs
   have t2:True:=trivial
   have d2:=c90z y _ hG e2 zy hGs
   have t3:True:=trivial
   have d3:=c90z z _ hG e3 zz hGs
   have t4:True:=trivial
   have d4:=c90z w _ hG e4' zW hGs
   clear e1 e2 e3 e4' hG hGs zx zy zz zw zW hz
   generalize g4 x y z w=G at *
   clear hw0 hn
   repeat' (first|refine zg ?_|refine AW.unroll 6 ?_|(refine AW.cond rfl ?_ ?_<;>intro hc<;>first|simp only[NM]at hc|omega|skip)|refine zr ?_|(first|refine callV.flat _ yfn_85 N1 rfl rfl ?_|refine callV.flat _ yfn_85 N2 rfl rfl ?_|refine callV.flat _ yfn_85 N3 rfl rfl ?_|refine callV.flat _ yfn_85 N4 rfl rfl ?_)|(first|refine callV.flat _ yfn_86 sW rfl rfl ?_|refine callV.flat _ yfn_86 s0 rfl rfl ?_)|(refine callV.flat _ yfn_87 c1 rfl rfl ?_)|(refine callV.lend1 _ yfn_88 cg rfl rfl (by simp -dsimp (disch:=try exact zo) only[go_sem,eZ]) (.agg _ (by intro c hc;simp only[List.mem_cons,List.not_mem_nil,or_false]at hc;rcases hc with rfl|rfl<;>exact .lit _)) ?_)|(first|refine callV.flat _ yfn_89 t1 rfl rfl ?_|refine callV.flat _ yfn_89 t2 rfl rfl ?_|refine callV.flat _ yfn_89 t3 rfl rfl ?_|refine callV.flat _ yfn_89 t4 rfl rfl ?_)|(first|refine callV.flat _ yfn_90 d1 rfl rfl ?_|refine callV.flat _ yfn_90 d2 rfl rfl ?_|refine callV.flat _ yfn_90 d3 rfl rfl ?_|refine callV.flat _ yfn_90 d4 rfl rfl ?_)|refine ⟨by omega,?_⟩|(refine zb ?_ ?_<;>intro hg<;>(try rw[hg])<;>try simp only[NM]at hg)|omega|simp -dsimp (disch:=try exact zo) only[go_sem,k0,kW]|contradiction|rfl)
end Go.Proofs.Vx
namespace Go.Proofs.Vx
open Go Go.Sx Go.Proofs
attribute [local irreducible] fnT CallOK CallFr AW effV callV runP runO oneP oneO gcaseP hid
theorem yfn_174:fnT Tryz.prog 174=true:=by kernel_rfl
end Go.Proofs.Vx
namespace Go.Proofs.Vx
open Go Go.Sx Go.Proofs
attribute [local irreducible] fnT CallOK CallFr AW effV callV runP runO oneP oneO gcaseP hid
theorem yqq_Nx71:boT Tryz.prog 24=false∧Tryz.prog.eqGuardType Tryz.prog.depth 24=false∧lfT Tryz.prog 30 24=some [.b,.s]:=by and_intros<;>kernel_rfl
attribute [go_sem] yqq_Nx71
theorem yfn_63:fnT Tryz.prog 63=true:=by kernel_rfl
theorem yfn_64:fnT Tryz.prog 64=true:=by kernel_rfl
theorem yfn_112:fnT Tryz.prog 112=true:=by kernel_rfl
theorem yfn_113:fnT Tryz.prog 113=true:=by kernel_rfl
theorem yfn_114:fnT Tryz.prog 114=true:=by kernel_rfl
theorem yfn_129:fnT Tryz.prog 129=true:=by kernel_rfl
theorem yfn_133:fnT Tryz.prog 133=true:=by kernel_rfl
theorem yfn_134:fnT Tryz.prog 134=true:=by kernel_rfl
theorem yfn_135:fnT Tryz.prog 135=true:=by kernel_rfl
theorem yfn_136:fnT Tryz.prog 136=true:=by kernel_rfl
theorem yfn_157:fnT Tryz.prog 157=true:=by kernel_rfl
theorem yfn_181:fnT Tryz.prog 181=true:=by kernel_rfl
theorem yfn_182:fnT Tryz.prog 182=true:=by kernel_rfl
theorem yfn_183:fnT Tryz.prog 183=true:=by kernel_rfl
theorem yfn_230:fnT Tryz.prog 230=true:=by kernel_rfl
theorem yfn_231:fnT Tryz.prog 231=true:=by kernel_rfl
end Go.Proofs.Vx
namespace Go.Proofs.Vx
open Go Go.Sx Go.Proofs
attribute [local irreducible] fnT CallOK CallFr AW effV callV runP runO oneP oneO gcaseP hid
theorem ypl_103:plT Tryz.prog 103=some [(0,3),(3,3),(6,3)]:=by kernel_rfl
attribute [go_sem] ypl_103
theorem yfn_50:fnT Tryz.prog 50=true:=by kernel_rfl
theorem yfn_51:fnT Tryz.prog 51=true:=by kernel_rfl
theorem yfn_128:fnT Tryz.prog 128=true:=by kernel_rfl
theorem yfn_130:fnT Tryz.prog 130=true:=by kernel_rfl
theorem yfn_131:fnT Tryz.prog 131=true:=by kernel_rfl
theorem yfn_161:fnT Tryz.prog 161=true:=by kernel_rfl
theorem yfn_210:fnT Tryz.prog 210=true:=by kernel_rfl
theorem yfn_211:fnT Tryz.prog 211=true:=by kernel_rfl
theorem yfn_212:fnT Tryz.prog 212=true:=by kernel_rfl
theorem yfn_213:fnT Tryz.prog 213=true:=by kernel_rfl
theorem yfn_246:fnT Tryz.prog 246=true:=by kernel_rfl
theorem yfn_247:fnT Tryz.prog 247=true:=by kernel_rfl
theorem yfn_261:fnT Tryz.prog 261=true:=by kernel_rfl
theorem yfn_262:fnT Tryz.prog 262=true:=by kernel_rfl
theorem yfn_263:fnT Tryz.prog 263=true:=by kernel_rfl
theorem yfn_264:fnT Tryz.prog 264=true:=by kernel_rfl
theorem yfn_270:fnT Tryz.prog 270=true:=by kernel_rfl
end Go.Proofs.Vx
namespace Go.Proofs.Vx
open Go Go.Sx Go.Proofs
attribute [local irreducible] fnT CallOK CallFr AW effV callV runP runO oneP oneO gcaseP hid
theorem yfn_31:fnT Tryz.prog 31=true:=by kernel_rfl
theorem yfn_162:fnT Tryz.prog 162=true:=by kernel_rfl
theorem yfn_214:fnT Tryz.prog 214=true:=by kernel_rfl
end Go.Proofs.Vx
namespace Go.Proofs.Vx
open Go Go.Sx Go.Proofs
attribute [local irreducible] fnT CallOK CallFr AW effV callV runP runO oneP oneO gcaseP hid
theorem yfn_163:fnT Tryz.prog 163=true:=by kernel_rfl
theorem esP_app (l m:PCell):esP (l++m)=esP l++esP m:=List.flatMap_append
theorem esP_one (p:Pl) (vs:List Pt):esP [(p,vs)]=Geo.edges vs:=by unfold esP;simp
theorem pt_ext {p q:Pt} (h:p.x=q.x∧p.y=q.y∧p.z=q.z∧p.w=q.w):p=q:=by
 obtain ⟨h1,h2,h3,h4⟩:=h
 cases p;cases q
 simp only at h1 h2 h3 h4
 subst h1 h2 h3 h4;rfl
theorem esP_len {l:PCell} {M:Nat} (h:∀ s∈l,s.2.length≤M):(esP l).length≤l.length*M:=by
 induction l with
 | nil=>simp[esP]
 | cons s l ih =>
  have h1:=ih fun t ht=>h t (by simp[ht])
  have h2:=h s (by simp)
  have e:(esP (s::l)).length=s.2.length+(esP l).length:=by unfold esP;rw[List.flatMap_cons,List.length_append,Geo.edges_length]
  rw[e,List.length_cons,Nat.succ_mul]
  omega
end Go.Proofs.Vx
namespace Go.Proofs.Vx
open Go Go.Sx Go.Proofs
attribute [local irreducible] fnT CallOK CallFr AW effV callV runP runO oneP oneO gcaseP hid
theorem yfn_55:fnT Tryz.prog 55=true:=by kernel_rfl
def plv (p:Pl):Value:=.agg #[.bool (Zn p.a),.string (Zm p.a),.bool (Zn p.b),.string (Zm p.b),.bool (Zn p.c),.string (Zm p.c),.bool (Zn p.d),.string (Zm p.d)]
def ev (e:Pt × Pt):Value:=.agg #[.bool (Zn e.1.x),.string (Zm e.1.x),.bool (Zn e.1.y),.string (Zm e.1.y),.bool (Zn e.1.z),.string (Zm e.1.z),.bool (Zn e.1.w),.string (Zm e.1.w),.bool (Zn e.2.x),.string (Zm e.2.x),.bool (Zn e.2.y),.string (Zm e.2.y),.bool (Zn e.2.z),.string (Zm e.2.z),.bool (Zn e.2.w),.string (Zm e.2.w)]
theorem plv_inj {p q:Pl} (h:plv p=plv q):p=q:=by
 unfold plv at h
 simp only[Value.agg.injEq,Array.mk.injEq,List.cons.injEq,Value.bool.injEq,Value.string.injEq,and_true]at h
 obtain ⟨h1,h2,h3,h4,h5,h6,h7,h8⟩:=h
 cases p;cases q
 simp only at *
 rw[eZ_inj h1 h2,eZ_inj h3 h4,eZ_inj h5 h6,eZ_inj h7 h8]
theorem ev_inj {e f:Pt × Pt} (h:ev e=ev f):e=f:=by
 unfold ev at h
 simp only[Value.agg.injEq,Array.mk.injEq,List.cons.injEq,Value.bool.injEq,Value.string.injEq,and_true]at h
 obtain ⟨h1,h2,h3,h4,h5,h6,h7,h8,k1,k2,k3,k4,k5,k6,k7,k8⟩:=h
 obtain ⟨a,b⟩:=e
 obtain ⟨c,d⟩:=f
 simp only at *
 rw[pt_ext (p:=a) (q:=c) ⟨eZ_inj h1 h2,eZ_inj h3 h4,eZ_inj h5 h6,eZ_inj h7 h8⟩,pt_ext (p:=b) (q:=d) ⟨eZ_inj k1 k2,eZ_inj k3 k4,eZ_inj k5 k6,eZ_inj k7 k8⟩]
def mHB (ps:List Pl):List (Value × Value):=ps.map fun p=>(plv p,.bool true)
def mEN (es:List (Pt × Pt)):List (Value × Value):=es.map fun e=>(ev e,.int .i64 1)
theorem mEN_len (es:List (Pt × Pt)):(mEN es).length=es.length:=List.length_map _
theorem mHB_key {ps:List Pl} {p:Pl} (h:p∉ps):plv p∉(mHB ps).map (·.1):=by
 unfold mHB
 rw[List.map_map]
 intro hm
 obtain ⟨q,hq,e⟩:=List.mem_map.1 hm
 exact h (plv_inj e▸hq)
theorem mEN_key {es:List (Pt × Pt)} {e:Pt × Pt} (h:e∉es):ev e∉(mEN es).map (·.1):=by
 unfold mEN
 rw[List.map_map]
 intro hm
 obtain ⟨q,hq,e⟩:=List.mem_map.1 hm
 exact h (ev_inj e▸hq)
theorem mfind_no {es:List (Value × Value)} {k:Value} (h:k∉es.map (·.1)):mfind es k=none:=by
 unfold mfind
 rw[List.find?_eq_none.2]
 ·rfl
 ·intro e he
  simp only[decide_eq_true_eq]
  rintro rfl
  exact h (List.mem_map_of_mem he)
theorem mput_no {es:List (Value × Value)} {k v:Value} (h:k∉es.map (·.1)):mput es k v=es++[(k,v)]:=by
 unfold mput
 rw[if_neg h]
theorem mset_end (es:List (Value × Value)) (n:Nat) (hn:es.length=n) (k v u:Value):mset (es++[(k,v)]) n u=es++[(k,u)]:=by
 unfold mset
 subst hn
 induction es with
 | nil=>rfl
 | cons a es ih=>rw[List.cons_append,List.length_cons,List.modify_succ_cons,ih];rfl
open Classical in
theorem mEN_find {es:List (Pt × Pt)} {e:Pt × Pt} (h:e∈es):mfind (mEN es) (ev e)=some (.int .i64 1):=by
 unfold mfind
 cases hq:(mEN es).find? fun x=>decide (x.1=ev e)with
 | none =>
  have:=List.find?_eq_none.1 hq (ev e,.int .i64 1) (List.mem_map.2 ⟨e,h,rfl⟩)
  simp at this
 | some x =>
  obtain ⟨f,_,rfl⟩:=List.mem_map.1 (List.mem_of_find?_eq_some hq)
  rfl
theorem kl26:WideMaps.KeyLaw Tryz.prog 26:=deep_law_gate (by kernel_rfl) (of_decide_eq_true (by kernel_rfl)) (of_decide_eq_true (by kernel_rfl)) (by kernel_rfl) (by kernel_rfl)
theorem kl138:WideMaps.KeyLaw Tryz.prog 138:=deep_law_gate (by kernel_rfl) (of_decide_eq_true (by kernel_rfl)) (of_decide_eq_true (by kernel_rfl)) (by kernel_rfl) (by kernel_rfl)
theorem yfl_26:fldT Tryz.prog 26=some [(24,0),(24,2),(24,4),(24,6)]:=by kernel_rfl
theorem yfl_138:fldT Tryz.prog 138=some [(51,0),(51,8)]:=by kernel_rfl
theorem yco_26:Tryz.prog.cellsOf 26=8:=by kernel_rfl
theorem yco_138:Tryz.prog.cellsOf 138=16:=by kernel_rfl
theorem key26 (p:Pl) (h:BPl 1073741824 p):(keyOf Tryz.prog 26 (plv p)).isSome=true:=by
 have hml:maxLen=9223372036854775807:=rfl
 have h1:=h.out.a
 have h2:=h.out.b
 have h3:=h.out.c
 have h4:=h.out.d
 refine keyOf_struct (L:=[.bool (Zn p.a),.string (Zm p.a).data.toList,.bool (Zn p.b),.string (Zm p.b).data.toList,.bool (Zn p.c),.string (Zm p.c).data.toList,.bool (Zn p.d),.string (Zm p.d).data.toList]) yfl_26 (by kernel_rfl) (by rw[yco_26];rfl) ?_
 rw[yts,keyLits_struct yfl_26 (by rw[yco_26];rfl)]
 simp only[List.mapM_cons,List.mapM_nil,yco_24,List.drop_zero,List.drop_succ_cons,List.take_succ_cons,List.take_zero,kl24 288 _ _ (show (Zm p.a).size≤maxLen by omega),kl24 288 _ _ (show (Zm p.b).size≤maxLen by omega),kl24 288 _ _ (show (Zm p.c).size≤maxLen by omega),kl24 288 _ _ (show (Zm p.d).size≤maxLen by omega)]
 rfl
theorem kl51k (d:Nat) (p:Pt) (h:BPt 1073741824 p):Tryz.prog.keyLits (d+3) 51 [.bool (Zn p.x),.string (Zm p.x),.bool (Zn p.y),.string (Zm p.y),.bool (Zn p.z),.string (Zm p.z),.bool (Zn p.w),.string (Zm p.w)]=some [.bool (Zn p.x),.string (Zm p.x).data.toList,.bool (Zn p.y),.string (Zm p.y).data.toList,.bool (Zn p.z),.string (Zm p.z).data.toList,.bool (Zn p.w),.string (Zm p.w).data.toList]:=by
 have hml:maxLen=9223372036854775807:=rfl
 have h1:=h.out.a
 have h2:=h.out.b
 have h3:=h.out.c
 have h4:=h.out.d
 rw[keyLits_struct yfl_51 (by rw[yco_51];rfl)]
 simp only[List.mapM_cons,List.mapM_nil,yco_24,List.drop_zero,List.drop_succ_cons,List.take_succ_cons,List.take_zero,kl24 d _ _ (show (Zm p.x).size≤maxLen by omega),kl24 d _ _ (show (Zm p.y).size≤maxLen by omega),kl24 d _ _ (show (Zm p.z).size≤maxLen by omega),kl24 d _ _ (show (Zm p.w).size≤maxLen by omega)]
 rfl
theorem key138 (e:Pt × Pt) (h:BPt 1073741824 e.1) (h':BPt 1073741824 e.2):(keyOf Tryz.prog 138 (ev e)).isSome=true:=by
 have k1:=kl51k 287 e.1 h
 have k2:=kl51k 287 e.2 h'
 refine keyOf_struct (L:=[.bool (Zn e.1.x),.string (Zm e.1.x).data.toList,.bool (Zn e.1.y),.string (Zm e.1.y).data.toList,.bool (Zn e.1.z),.string (Zm e.1.z).data.toList,.bool (Zn e.1.w),.string (Zm e.1.w).data.toList,.bool (Zn e.2.x),.string (Zm e.2.x).data.toList,.bool (Zn e.2.y),.string (Zm e.2.y).data.toList,.bool (Zn e.2.z),.string (Zm e.2.z).data.toList,.bool (Zn e.2.w),.string (Zm e.2.w).data.toList]) yfl_138 (by kernel_rfl) (by rw[yco_138];rfl) ?_
 rw[yts,keyLits_struct yfl_138 (by rw[yco_138];rfl)]
 simp only[List.mapM_cons,List.mapM_nil,yco_51,List.drop_zero,List.drop_succ_cons,List.take_succ_cons,List.take_zero,k1,k2]
 rfl
theorem keysHB {ps:List Pl} (hn:ps.Nodup) (h:∀ p∈ps,BPl 1073741824 p):KeysOk Tryz.prog 26 (mHB ps):=by
 refine ⟨fun e he=>?_,?_⟩
 ·obtain ⟨q,hq,rfl⟩:=List.mem_map.1 he
  exact key26 q (h q hq)
 ·unfold mHB
  rw[List.map_map]
  exact List.Pairwise.map _ (fun a b hab hp=>hab (plv_inj hp)) hn
theorem keysEN {es:List (Pt × Pt)} (hn:es.Nodup) (h:∀ e∈es,BPt 1073741824 e.1∧BPt 1073741824 e.2):KeysOk Tryz.prog 138 (mEN es):=by
 refine ⟨fun e he=>?_,?_⟩
 ·obtain ⟨q,hq,rfl⟩:=List.mem_map.1 he
  exact key138 q (h q hq).1 (h q hq).2
 ·unfold mEN
  rw[List.map_map]
  exact List.Pairwise.map _ (fun a b hab hp=>hab (ev_inj hp)) hn
end Go.Proofs.Vx
