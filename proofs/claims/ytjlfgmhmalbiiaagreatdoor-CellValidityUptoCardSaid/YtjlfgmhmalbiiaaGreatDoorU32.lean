import Derived.Test.YtjlfgmhmalbiiaaGreatDoorProg
import Derived.Test.YtjlfgmhmalbiiaaGreatDoorU10
import Derived.Test.YtjlfgmhmalbiiaaGreatDoorU11
import Derived.Test.YtjlfgmhmalbiiaaGreatDoorU30
set_option linter.all false
namespace Go.Proofs.Vx
open Go Go.Sx Go.Proofs
attribute [local irreducible] fnT CallOK CallFr AW effV callV runP runO oneP oneO gcaseP hid
theorem yfn_28:fnT Tryz.prog 28=true:=by kernel_rfl
theorem yfn_85:fnT Tryz.prog 85=true:=by kernel_rfl
theorem yfn_87:fnT Tryz.prog 87=true:=by kernel_rfl
theorem yfn_89:fnT Tryz.prog 89=true:=by kernel_rfl
theorem yfn_154:fnT Tryz.prog 154=true:=by kernel_rfl
theorem nbL_step {n m:Nat} {X:List Int} (h:ofI X++nbL m=nbL n) (hm:m≠0):ofI (X++[((m % 256:Nat):Int)])++nbL (m / 256)=nbL n:=by
 rw[nbL_pos hm]at h
 rw[← h]
 unfold ofI
 rw[List.map_append,List.append_assoc]
 rfl
theorem nbL_len {n:Nat} (h:n<18446744073709551616):(nbL n).length≤8:=by
 have:=(Zm_size (n:Int) 8).2 (by simpa using h)
 exact this
set_option maxHeartbeats 8000000 in
theorem c154 (n:Nat) (hn:n<18446744073709551616):CallOK Tryz.prog 154 [.lit (.int .u64 n)] [] (.lit (.string (nb n))) []:=by
 refine CallOK.flat Tryz.func154 rfl 17 rfl rfl rfl [.tmp 2] (congrArg Array.toList Tryz.results154) ?_
 simp only[startT,Nat.reduceAdd]
 have hml:maxLen=9223372036854775807:=rfl
 have hi0:ints .u8 []=[]:=rfl
 repeat' (first|refine zg ?_|(refine AW.cond rfl ?_ ?_<;>intro hc<;>first|simp only[NM]at hc|omega|skip)|refine zr ?_|refine ⟨by omega,?_⟩|(refine zb ?_ ?_<;>intro hg<;>(try rw[hg])<;>try simp only[NM]at hg)|omega|simp -dsimp (disch:=try exact zo) only[go_sem]|contradiction|rfl)
 refine AW.loop (fun z:{p:Nat × List Int // Dig8 p.2∧p.1<18446744073709551616∧ofI p.2++nbL p.1=nbL n}=>⟨[(0,.lit (.int .u64 z.1.1)),(3,.ref 9 0 z.1.2.length z.1.2.length)],[(9,.vec 1 (ints .u8 z.1.2))],40⟩) (fun z=>z.1.1) ⟨(n,[]),fun x hx=>by simp at hx,hn,rfl⟩ (Weak.t4 (by refine ⟨?_,?_,?_,?_⟩<;>simp -dsimp (disch:=try exact zo) only[go_sem,ints_in,hi0,ZC])) ?_
 rintro ⟨⟨m,X⟩,dX,hm,hX⟩
 dsimp only at dX hm hX ⊢
 have hXs:X.length+(nbL m).length=(nbL n).length:=by rw[← hX,List.length_append];simp[ofI]
 have hl8:=nbL_len hn
 by_cases h0:0<m
 ·have hm1:(m:Int) % 256=((m % 256:Nat):Int):=by omega
  have hm2:(m:Int) / 256=((m / 256:Nat):Int):=by omega
  have hlt:m % 256<256:=Nat.mod_lt _ (by decide)
  have dX1:=dig8_app dX (d:=((m % 256:Nat):Int)) (by omega)
  have hst:=nbL_step hX (by omega)
  have hXl:(X++[((m % 256:Nat):Int)]).length=X.length+1:=by simp
  have hdl:m / 256<m:=Nat.div_lt_self h0 (by decide)
  clear hX
  repeat' (first|refine zg ?_|(refine AW.cond rfl ?_ ?_<;>intro hc<;>first|simp only[NM]at hc|omega|skip)|refine zr ?_|refine ⟨by omega,?_⟩|(refine zb ?_ ?_<;>intro hg<;>(try rw[hg])<;>try simp only[NM]at hg)|omega|simp -dsimp (disch:=try exact zo) only[go_sem,hm1,hm2,ints_length,ints_app]|contradiction|rfl)
  all_goals exact AW.stop ⟨⟨(m / 256,X++[((m % 256:Nat):Int)]),dX1,by dsimp only;omega,hst⟩,(Weak.t4 (by refine ⟨?_,?_,?_,?_⟩<;>first|(simp -dsimp (disch:=try exact zo) only[go_sem,ZC,hXl,ints_app,hm1,hm2];done)|(simp -dsimp (disch:=try exact zo) only[go_sem,ints_in,ZC];done))),by dsimp only;omega⟩
 ·obtain rfl:m=0:=by omega
  have hfin:(⟨(ofI X).toArray⟩:ByteArray)=nb n:=by
   unfold nb
   rw[nbL_zero,List.append_nil]at hX
   rw[hX]
  clear hX
  repeat' (first|refine zg ?_|(refine AW.cond rfl ?_ ?_<;>intro hc<;>first|simp only[NM]at hc|omega|skip)|refine zr ?_|refine ⟨by omega,?_⟩|(refine zb ?_ ?_<;>intro hg<;>(try rw[hg])<;>try simp only[NM]at hg)|omega|simp -dsimp (disch:=try exact zo) only[go_sem,ints_length]|contradiction|rfl)
  all_goals
   refine ⟨ofI X,by first|exact ints_enc8 _ dX|(rw[List.take_of_length_le (by first|omega|(rw[ints_length];omega))];exact ints_enc8 _ dX),?_⟩
   repeat' (first|refine zg ?_|(refine AW.cond rfl ?_ ?_<;>intro hc<;>first|simp only[NM]at hc|omega|skip)|refine zr ?_|refine ⟨by omega,?_⟩|(refine zb ?_ ?_<;>intro hg<;>(try rw[hg])<;>try simp only[NM]at hg)|omega|simp -dsimp (disch:=try exact zo) only[go_sem,hfin]|contradiction|rfl)
theorem iv_not (n:Bool) (m:ByteArray):iv (!n) m=-iv n m:=by cases n<;>simp[iv]
set_option maxHeartbeats 1600000 in
theorem c85 (n:Bool) (m:ByteArray) (hm:m.size<4611686018427387904):CallOK Tryz.prog 85 [.agg [.lit (.bool n),.lit (.string m)]] [] (.agg (eZ (iv n m))) []:=by
 refine CallOK.flat Tryz.func85 rfl 8 rfl rfl rfl [.cell 2 24] (congrArg Array.toList Tryz.results85) ?_
 simp only[startT,Nat.reduceAdd]
 have co:=c152 n m hm
 generalize iv n m=z at *
 repeat' (first|refine zg ?_|(refine AW.cond rfl ?_ ?_<;>intro hc<;>first|simp only[NM]at hc|omega|skip)|refine zr ?_|(refine callV.flat _ yfn_152 co rfl rfl ?_)|refine ⟨by omega,?_⟩|(refine zb ?_ ?_<;>intro hg<;>(try rw[hg])<;>try simp only[NM]at hg)|omega|simp -dsimp (disch:=try exact zo) only[go_sem]|contradiction|rfl)
set_option maxHeartbeats 1600000 in
theorem c89 (n:Bool) (m:ByteArray) (hm:m.size<4611686018427387904):CallOK Tryz.prog 89 [.agg [.lit (.bool n),.lit (.string m)]] [] (.agg (eZ (-iv n m))) []:=by
 refine CallOK.flat Tryz.func89 rfl 9 rfl rfl rfl [.cell 2 24] (congrArg Array.toList Tryz.results89) ?_
 simp only[startT,Nat.reduceAdd]
 have co:=c152 (!n) m hm
 rw[iv_not]at co
 generalize -iv n m=z at *
 repeat' (first|refine zg ?_|(refine AW.cond rfl ?_ ?_<;>intro hc<;>first|simp only[NM]at hc|omega|skip)|refine zr ?_|(refine callV.flat _ yfn_152 co rfl rfl ?_)|refine ⟨by omega,?_⟩|(refine zb ?_ ?_<;>intro hg<;>(try rw[hg])<;>try simp only[NM]at hg)|omega|simp -dsimp (disch:=try exact zo) only[go_sem]|contradiction|rfl)
theorem iv_nb (b:Bool) (k:Nat):iv b (nb k)=if b then -(k:Int)else k:=by unfold iv;rw[nv_nb]
set_option maxHeartbeats 1600000 in
theorem c87 (z:Int) (h1:-9223372036854775808≤z) (h2:z<9223372036854775808):CallOK Tryz.prog 87 [.lit (.int .i64 z)] [] (.agg (eZ z)) []:=by
 refine CallOK.flat Tryz.func87 rfl 16 rfl rfl rfl [.cell 2 24] (congrArg Array.toList Tryz.results87) ?_
 simp only[startT,Nat.reduceAdd]
 by_cases h0:z<0
 ·have c4:=c154 (-z).toNat (by omega)
  have co:=c152 true (nb (-z).toNat) (Nat.lt_of_le_of_lt ((nb_size _ 8).2 (by omega)) (by decide))
  have e:iv true (nb (-z).toNat)=z:=by rw[iv_nb];simp only[if_true];omega
  rw[e]at co
  have hk:((-z).toNat:Int)=0 - (z+1)+1:=by omega
  rw[hk]at c4
  generalize nb (-z).toNat=s at *
  clear e hk
  repeat' (first|refine zg ?_|(refine AW.cond rfl ?_ ?_<;>intro hc<;>first|simp only[NM]at hc|omega|skip)|refine zr ?_|(refine callV.flat _ yfn_152 co rfl rfl ?_)|(refine callV.flat _ yfn_154 c4 rfl rfl ?_)|refine ⟨by omega,?_⟩|(refine zb ?_ ?_<;>intro hg<;>(try rw[hg])<;>try simp only[NM]at hg)|omega|simp -dsimp (disch:=try exact zo) only[go_sem]|contradiction|rfl)
 ·have c4:=c154 z.toNat (by omega)
  have co:=c152 false (nb z.toNat) (Nat.lt_of_le_of_lt ((nb_size _ 8).2 (by omega)) (by decide))
  have e:iv false (nb z.toNat)=z:=by rw[iv_nb];simp only[Bool.false_eq_true,if_false];omega
  rw[e]at co
  have hk:(z.toNat:Int)=z:=by omega
  rw[hk]at c4
  generalize nb z.toNat=s at *
  clear e hk
  repeat' (first|refine zg ?_|(refine AW.cond rfl ?_ ?_<;>intro hc<;>first|simp only[NM]at hc|omega|skip)|refine zr ?_|(refine callV.flat _ yfn_152 co rfl rfl ?_)|(refine callV.flat _ yfn_154 c4 rfl rfl ?_)|refine ⟨by omega,?_⟩|(refine zb ?_ ?_<;>intro hg<;>(try rw[hg])<;>try simp only[NM]at hg)|omega|simp -dsimp (disch:=try exact zo) only[go_sem]|contradiction|rfl)
def bigR (r:RP):Bool:=decide (6<r.m1.size)||decide (6<r.m2.size)||decide (6<r.m3.size)||decide (6<r.m4.size)
theorem bigR_not {r:RP} (h:bigR r=false):r.m1.size≤6∧r.m2.size≤6∧r.m3.size≤6∧r.m4.size≤6:=by
 unfold bigR at h
 simp only[Bool.or_eq_false_iff,decide_eq_false_iff_not,Nat.not_lt]at h
 omega
theorem bigR_of {r:RP} (h:6<r.m1.size∨6<r.m2.size∨6<r.m3.size∨6<r.m4.size):bigR r=true:=by
 unfold bigR
 simp only[Bool.or_eq_true,decide_eq_true_eq]
 omega
def greatP (l:List RP):Int:=if l.any bigR then 1 else 0
theorem greatP_at {l:List RP} {i:Nat} (h:i<l.length) (hb:bigR l[i]=true):greatP l=1:=if_pos (List.any_eq_true.2 ⟨_,List.getElem_mem h,hb⟩)
theorem greatP_no {l:List RP} (h:∀ j (hj:j<l.length),bigR l[j]=false):greatP l=0:=by
 unfold greatP
 rw[if_neg]
 rw[Bool.not_eq_true,List.any_eq_false]
 intro s hs
 obtain ⟨j,hj,rfl⟩:=List.mem_iff_getElem.1 hs
 rw[h j hj];decide
set_option maxHeartbeats 8000000 in
theorem c28 (l:List RP) (hn:l.length≤1048576):CallOK Tryz.prog 28 [.sl (eRPs l)] [] (.lit (.int .i64 (greatP l))) []:=by
 refine CallOK.flat Tryz.func28 rfl 38 rfl rfl rfl [.tmp 2] (congrArg Array.toList Tryz.results28) ?_
 simp only[startT,Nat.reduceAdd]
 have hml:maxLen=9223372036854775807:=rfl
 have hl:(eRPs l).length=l.length:=List.length_map _
 repeat' (first|refine zg ?_|(refine AW.cond rfl ?_ ?_<;>intro hc<;>try simp only[NM]at hc)|refine zr ?_|refine ⟨by omega,?_⟩|(refine zb ?_ ?_<;>intro hg<;>(try rw[hg])<;>try simp only[NM]at hg)|omega|simp -dsimp (disch:=try exact zo) only[go_sem,hl]|contradiction|rfl)
 refine AW.loop (fun z:{i:Nat // i≤l.length∧∀ j (hj:j<i) (h:j<l.length),bigR l[j]=false}=>⟨[(7,.lit (.int .i64 z.1)),(6,.lit (.int .i64 l.length)),(5,.sl (eRPs l))],[],60⟩) (fun z=>l.length - z.1) ⟨0,Nat.zero_le _,fun j hj=>by omega⟩ (Weak.t4 (by refine ⟨?_,?_,?_,?_⟩<;>simp -dsimp (disch:=try exact zo) only[go_sem,eRPs_in,ZC])) ?_
 rintro ⟨i,hi,hb⟩
 dsimp only
 by_cases hlt:i<l.length
 ·have es1:=eRPs_getD l i hlt
  by_cases q1:6<l[i].m1.size
  ·rw[greatP_at hlt (bigR_of (by omega))]
   generalize l[i]=r at *
   simp only[eRP]at es1
   have k1:((6:Int)<(r.m1.size:Int))=True:=eq_true (by omega)
   clear hb
   repeat' (first|refine zg ?_|(refine AW.cond rfl ?_ ?_<;>intro hc<;>first|simp only[NM]at hc|omega|skip)|refine zr ?_|refine ⟨by omega,?_⟩|(refine zb ?_ ?_<;>intro hg<;>(try rw[hg])<;>try simp only[NM]at hg)|omega|simp -dsimp (disch:=try exact zo) only[go_sem,hl,es1,ZT,eRPs_in,k1]|contradiction|rfl)
  by_cases q2:6<l[i].m2.size
  ·rw[greatP_at hlt (bigR_of (by omega))]
   generalize l[i]=r at *
   simp only[eRP]at es1
   have k1:((6:Int)<(r.m1.size:Int))=False:=eq_false (by omega)
   have k2:((6:Int)<(r.m2.size:Int))=True:=eq_true (by omega)
   clear hb
   repeat' (first|refine zg ?_|(refine AW.cond rfl ?_ ?_<;>intro hc<;>first|simp only[NM]at hc|omega|skip)|refine zr ?_|refine ⟨by omega,?_⟩|(refine zb ?_ ?_<;>intro hg<;>(try rw[hg])<;>try simp only[NM]at hg)|omega|simp -dsimp (disch:=try exact zo) only[go_sem,hl,es1,ZT,eRPs_in,k1,k2]|contradiction|rfl)
  by_cases q3:6<l[i].m3.size
  ·rw[greatP_at hlt (bigR_of (by omega))]
   generalize l[i]=r at *
   simp only[eRP]at es1
   have k1:((6:Int)<(r.m1.size:Int))=False:=eq_false (by omega)
   have k2:((6:Int)<(r.m2.size:Int))=False:=eq_false (by omega)
   have k3:((6:Int)<(r.m3.size:Int))=True:=eq_true (by omega)
   clear hb
   repeat' (first|refine zg ?_|(refine AW.cond rfl ?_ ?_<;>intro hc<;>first|simp only[NM]at hc|omega|skip)|refine zr ?_|refine ⟨by omega,?_⟩|(refine zb ?_ ?_<;>intro hg<;>(try rw[hg])<;>try simp only[NM]at hg)|omega|simp -dsimp (disch:=try exact zo) only[go_sem,hl,es1,ZT,eRPs_in,k1,k2,k3]|contradiction|rfl)
  by_cases q4:6<l[i].m4.size
  ·rw[greatP_at hlt (bigR_of (by omega))]
   generalize l[i]=r at *
   simp only[eRP]at es1
   have k1:((6:Int)<(r.m1.size:Int))=False:=eq_false (by omega)
   have k2:((6:Int)<(r.m2.size:Int))=False:=eq_false (by omega)
   have k3:((6:Int)<(r.m3.size:Int))=False:=eq_false (by omega)
   have k4:((6:Int)<(r.m4.size:Int))=True:=eq_true (by omega)
   clear hb
   repeat' (first|refine zg ?_|(refine AW.cond rfl ?_ ?_<;>intro hc<;>first|simp only[NM]at hc|omega|skip)|refine zr ?_|refine ⟨by omega,?_⟩|(refine zb ?_ ?_<;>intro hg<;>(try rw[hg])<;>try simp only[NM]at hg)|omega|simp -dsimp (disch:=try exact zo) only[go_sem,hl,es1,ZT,eRPs_in,k1,k2,k3,k4]|contradiction|rfl)
  have hb':∀ j (hj:j<i+1) (h:j<l.length),bigR l[j]=false:=fun j hj h=>by
   by_cases e:j=i
   ·subst e
    cases hbr:bigR l[j]
    ·rfl
    ·unfold bigR at hbr;simp only[Bool.or_eq_true,decide_eq_true_eq]at hbr;omega
   ·exact hb j (by omega) h
  generalize l[i]=r at *
  generalize greatP l=G
  simp only[eRP]at es1
  have k1:((6:Int)<(r.m1.size:Int))=False:=eq_false (by omega)
  have k2:((6:Int)<(r.m2.size:Int))=False:=eq_false (by omega)
  have k3:((6:Int)<(r.m3.size:Int))=False:=eq_false (by omega)
  have k4:((6:Int)<(r.m4.size:Int))=False:=eq_false (by omega)
  clear hb
  replace hb':=Hid.mk hb'
  repeat' (first|refine zg ?_|(refine AW.cond rfl ?_ ?_<;>intro hc<;>first|simp only[NM]at hc|omega|skip)|refine zr ?_|refine ⟨by omega,?_⟩|(refine zb ?_ ?_<;>intro hg<;>(try rw[hg])<;>try simp only[NM]at hg)|omega|simp -dsimp (disch:=try exact zo) only[go_sem,hl,es1,ZT,eRPs_in,k1,k2,k3,k4]|contradiction|rfl)
  all_goals exact AW.stop ⟨⟨i+1,by omega,hb'.out⟩,(Weak.t4 (by refine ⟨?_,?_,?_,?_⟩<;>simp -dsimp (disch:=try exact zo) only[go_sem,eRPs_in,ZC])),by dsimp only;omega⟩
 ·have hil:i=l.length:=by omega
  rw[greatP_no (fun j hj=>hb j (by omega) hj)]
  clear hb
  subst hil
  repeat' (first|refine zg ?_|(refine AW.cond rfl ?_ ?_<;>intro hc<;>first|simp only[NM]at hc|omega|skip)|refine zr ?_|refine ⟨by omega,?_⟩|(refine zb ?_ ?_<;>intro hg<;>(try rw[hg])<;>try simp only[NM]at hg)|omega|simp -dsimp (disch:=try exact zo) only[go_sem,hl]|contradiction|rfl)
end Go.Proofs.Vx
namespace Go.Proofs.Vx
open Go Go.Sx Go.Proofs
attribute [local irreducible] fnT CallOK CallFr AW effV callV runP runO oneP oneO gcaseP hid
theorem yfn_29:fnT Tryz.prog 29=true:=by kernel_rfl
theorem c86z (z:Int) (h:(Zm z).size≤268435456):CallOK Tryz.prog 86 [.agg (eZ z)] [] (.lit (.int .i64 (sg z))) []:=by
 have:=c86 (Zn z) (Zm z) (by omega)
 rw[iv_Z]at this
 exact this
theorem c89z (z:Int) (h:(Zm z).size≤268435456):CallOK Tryz.prog 89 [.agg (eZ z)] [] (.agg (eZ (-z))) []:=by
 have:=c89 (Zn z) (Zm z) (by omega)
 rw[iv_Z]at this
 exact this
theorem c90z (z:Int) (g:Nat) (hg:0<g) (hd:(g:Int)∣z) (h:(Zm z).size≤268435456) (hgs:(nb g).size≤268435456):CallOK Tryz.prog 90 [.agg (eZ z),.agg [.lit (.bool false),.lit (.string (nb g))]] [] (.tup [.agg (eZ (z / (g:Int))),.agg (eZ 0),.lit (.bool true)]) []:=by
 have:=c90 (Zn z) (Zm z) g hg (by rw[nv_Zm];exact Int.ofNat_dvd_left.1 hd) h hgs
 rw[iv_Z]at this
 exact this
theorem c88z (x y z w : Int) (h1 : (Zm x).size ≤ 268435456) (h2 : (Zm y).size ≤ 268435456) (h3 : (Zm z).size ≤ 268435456) (h4 : (Zm w).size ≤ 268435456) :
  CallOK Tryz.prog 88 [.sl [eZ x,eZ y,eZ z,eZ w]] [] (.agg [.lit (.bool false),.lit (.string (nb (g4 x y z w)))]) []:=by
 have:=c88x (Zn x) (Zn y) (Zn z) (Zn w) (Zm x) (Zm y) (Zm z) (Zm w) h1 h2 h3 h4
 simp only[iv_Z]at this
 exact this
theorem g4_size {x y z w:Int} {k:Nat} (hx:(Zm x).size≤k) (hy:(Zm y).size≤k) (hz:(Zm z).size≤k) (hw:(Zm w).size≤k):(nb (g4 x y z w)).size≤k:=by
 unfold g4
 rw[← nv_Zm x,← nv_Zm y,← nv_Zm z,← nv_Zm w]
 exact gcd_size (gcd_size (gcd_size (Nat.le_trans (can_size _) hx) (Nat.le_trans (can_size _) hy)) (Nat.le_trans (can_size _) hz)) (Nat.le_trans (can_size _) hw)
theorem iv_zs {n:Bool} {m:ByteArray} {k:Nat} (h:m.size≤k):(Zm (iv n m)).size≤k:=Nat.le_trans (zs_iv n m) h
set_option maxRecDepth 20000 in
set_option maxHeartbeats 16000000 in
theorem c29 (n1 n2 n3 n4:Bool) (m1 m2 m3 m4:ByteArray) (h1:m1.size≤268435456) (h2:m2.size≤268435456) (h3:m3.size≤268435456) (h4:m4.size≤268435456):CallOK Tryz.prog 29 [.agg [.lit (.bool n1),.lit (.string m1),.lit (.bool n2),.lit (.string m2),.lit (.bool n3),.lit (.string m3),.lit (.bool n4),.lit (.string m4)]] [] (.agg (eP (nrm (iv n1 m1) (iv n2 m2) (iv n3 m3) (iv n4 m4)))) []:=by
 refine CallOK.flat Tryz.func29 rfl 76 rfl rfl rfl [.cell 2 51] (congrArg Array.toList Tryz.results29) ?_
 simp only[startT,Nat.reduceAdd]
 have hml:maxLen=9223372036854775807:=rfl
 have N1:=c85 n1 m1 (by omega)
 have N2:=c85 n2 m2 (by omega)
 have N3:=c85 n3 m3 (by omega)
 have N4:=c85 n4 m4 (by omega)
 have zx:=iv_zs (n:=n1) h1
 have zy:=iv_zs (n:=n2) h2
 have zz:=iv_zs (n:=n3) h3
 have zw:=iv_zs (n:=n4) h4
 generalize iv n1 m1=x at *
 generalize iv n2 m2=y at *
 generalize iv n3 m3=z at *
 generalize iv n4 m4=w at *
 have s0:=c86z w zw
 have zW:(Zm (nz w)).size≤268435456:=zs_nz zw (by decide)
 have sW:=c86z (nz w) zW
 have cg:=c88z x y z (nz w) zx zy zz zW
 obtain ⟨e1,e2,e3,e4'⟩:=g4_dvd x y z (nz w)
 have hG:=g4_pos (x:=x) (y:=y) (z:=z) (nz_ne w)
 have hGs:=g4_size zx zy zz zW
 unfold nrm
 unfold turn
 by_cases hw0:w=0
 ·have hz:nz w=1:=if_pos hw0
  have k0:(sg w=0)=True:=eq_true (sg_zero.2 hw0)
  have c1:=c87 1 (by decide) (by decide)
  simp only[hz]at s0 zW sW cg e1 e2 e3 e4' hG hGs ⊢
  have kW:(sg 1<0)=False:=eq_false (by decide)
  have hn:¬ (1:Int)<0:=by decide
  simp only[if_neg hn]
  have t1:True:=trivial
  have d1:=c90z x _ hG e1 zx hGs
  have t2:True:=trivial
  have d2:=c90z y _ hG e2 zy hGs
  have t3:True:=trivial
  have d3:=c90z z _ hG e3 zz hGs
  have t4:True:=trivial
  have d4:=c90z 1 _ hG e4' zW hGs
  clear e1 e2 e3 e4' hG hGs zx zy zz zw zW hz
  generalize g4 x y z 1=G at *
  clear hw0
  repeat' (first|refine zg ?_|refine AW.unroll 6 ?_|(refine AW.cond rfl ?_ ?_<;>intro hc<;>first|simp only[NM]at hc|omega|skip)|refine zr ?_|(first|refine callV.flat _ yfn_85 N1 rfl rfl ?_|refine callV.flat _ yfn_85 N2 rfl rfl ?_|refine callV.flat _ yfn_85 N3 rfl rfl ?_|refine callV.flat _ yfn_85 N4 rfl rfl ?_)|(first|refine callV.flat _ yfn_86 sW rfl rfl ?_|refine callV.flat _ yfn_86 s0 rfl rfl ?_)|(refine callV.flat _ yfn_87 c1 rfl rfl ?_)|(refine callV.lend1 _ yfn_88 cg rfl rfl (by simp -dsimp (disch:=try exact zo) only[go_sem,eZ]) (.agg _ (by intro c hc;simp only[List.mem_cons,List.not_mem_nil,or_false]at hc;rcases hc with rfl|rfl<;>exact .lit _)) ?_)|(first|refine callV.flat _ yfn_89 t1 rfl rfl ?_|refine callV.flat _ yfn_89 t2 rfl rfl ?_|refine callV.flat _ yfn_89 t3 rfl rfl ?_|refine callV.flat _ yfn_89 t4 rfl rfl ?_)|(first|refine callV.flat _ yfn_90 d1 rfl rfl ?_|refine callV.flat _ yfn_90 d2 rfl rfl ?_|refine callV.flat _ yfn_90 d3 rfl rfl ?_|refine callV.flat _ yfn_90 d4 rfl rfl ?_)|refine ⟨by omega,?_⟩|(refine zb ?_ ?_<;>intro hg<;>(try rw[hg])<;>try simp only[NM]at hg)|omega|simp -dsimp (disch:=try exact zo) only[go_sem,k0,kW]|contradiction|rfl)
 ·have hz:nz w=w:=if_neg hw0
  have k0:(sg w=0)=False:=eq_false fun h=>hw0 (sg_zero.1 h)
  have c1:True:=trivial
  simp only[hz]at s0 zW sW cg e1 e2 e3 e4' hG hGs ⊢
  by_cases hn:w<0
  ·have kW:(sg w<0)=True:=eq_true (sg_neg.2 hn)
   simp only[if_pos hn]
   have t1:=c89z x zx
   have d1:=c90z (-x) _ hG (Int.dvd_neg.2 e1) (Nat.le_trans (zs_le (by simp)) zx) hGs
   rw[Int.neg_ediv_of_dvd e1]at d1
   have t2:=c89z y zy
   have d2:=c90z (-y) _ hG (Int.dvd_neg.2 e2) (Nat.le_trans (zs_le (by simp)) zy) hGs
   rw[Int.neg_ediv_of_dvd e2]at d2
   have t3:=c89z z zz
   have d3:=c90z (-z) _ hG (Int.dvd_neg.2 e3) (Nat.le_trans (zs_le (by simp)) zz) hGs
   rw[Int.neg_ediv_of_dvd e3]at d3
   have t4:=c89z w zW
   have d4:=c90z (-w) _ hG (Int.dvd_neg.2 e4') (Nat.le_trans (zs_le (by simp)) zW) hGs
   rw[Int.neg_ediv_of_dvd e4']at d4
   clear e1 e2 e3 e4' hG hGs zx zy zz zw zW hz
   generalize g4 x y z w=G at *
   clear hw0 hn
   repeat' (first|refine zg ?_|refine AW.unroll 6 ?_|(refine AW.cond rfl ?_ ?_<;>intro hc<;>first|simp only[NM]at hc|omega|skip)|refine zr ?_|(first|refine callV.flat _ yfn_85 N1 rfl rfl ?_|refine callV.flat _ yfn_85 N2 rfl rfl ?_|refine callV.flat _ yfn_85 N3 rfl rfl ?_|refine callV.flat _ yfn_85 N4 rfl rfl ?_)|(first|refine callV.flat _ yfn_86 sW rfl rfl ?_|refine callV.flat _ yfn_86 s0 rfl rfl ?_)|(refine callV.flat _ yfn_87 c1 rfl rfl ?_)|(refine callV.lend1 _ yfn_88 cg rfl rfl (by simp -dsimp (disch:=try exact zo) only[go_sem,eZ]) (.agg _ (by intro c hc;simp only[List.mem_cons,List.not_mem_nil,or_false]at hc;rcases hc with rfl|rfl<;>exact .lit _)) ?_)|(first|refine callV.flat _ yfn_89 t1 rfl rfl ?_|refine callV.flat _ yfn_89 t2 rfl rfl ?_|refine callV.flat _ yfn_89 t3 rfl rfl ?_|refine callV.flat _ yfn_89 t4 rfl rfl ?_)|(first|refine callV.flat _ yfn_90 d1 rfl rfl ?_|refine callV.flat _ yfn_90 d2 rfl rfl ?_|refine callV.flat _ yfn_90 d3 rfl rfl ?_|refine callV.flat _ yfn_90 d4 rfl rfl ?_)|refine ⟨by omega,?_⟩|(refine zb ?_ ?_<;>intro hg<;>(try rw[hg])<;>try simp only[NM]at hg)|omega|simp -dsimp (disch:=try exact zo) only[go_sem,k0,kW]|contradiction|rfl)
  ·have kW:(sg w<0)=False:=eq_false fun h=>hn (sg_neg.1 h)
   simp only[if_neg hn]
   have t1:True:=trivial
   have d1:=c90z x _ hG e1 zx hGs
   have t2:True:=trivial
   have d2:=c90z y _ hG e2 zy hGs
   have t3:True:=trivial
   have d3:=c90z z _ hG e3 zz hGs
   have t4:True:=trivial
   have d4:=c90z w _ hG e4' zW hGs
   clear e1 e2 e3 e4' hG hGs zx zy zz zw zW hz
   generalize g4 x y z w=G at *
   clear hw0 hn
   repeat' (first|refine zg ?_|refine AW.unroll 6 ?_|(refine AW.cond rfl ?_ ?_<;>intro hc<;>first|simp only[NM]at hc|omega|skip)|refine zr ?_|(first|refine callV.flat _ yfn_85 N1 rfl rfl ?_|refine callV.flat _ yfn_85 N2 rfl rfl ?_|refine callV.flat _ yfn_85 N3 rfl rfl ?_|refine callV.flat _ yfn_85 N4 rfl rfl ?_)|(first|refine callV.flat _ yfn_86 sW rfl rfl ?_|refine callV.flat _ yfn_86 s0 rfl rfl ?_)|(refine callV.flat _ yfn_87 c1 rfl rfl ?_)|(refine callV.lend1 _ yfn_88 cg rfl rfl (by simp -dsimp (disch:=try exact zo) only[go_sem,eZ]) (.agg _ (by intro c hc;simp only[List.mem_cons,List.not_mem_nil,or_false]at hc;rcases hc with rfl|rfl<;>exact .lit _)) ?_)|(first|refine callV.flat _ yfn_89 t1 rfl rfl ?_|refine callV.flat _ yfn_89 t2 rfl rfl ?_|refine callV.flat _ yfn_89 t3 rfl rfl ?_|refine callV.flat _ yfn_89 t4 rfl rfl ?_)|(first|refine callV.flat _ yfn_90 d1 rfl rfl ?_|refine callV.flat _ yfn_90 d2 rfl rfl ?_|refine callV.flat _ yfn_90 d3 rfl rfl ?_|refine callV.flat _ yfn_90 d4 rfl rfl ?_)|refine ⟨by omega,?_⟩|(refine zb ?_ ?_<;>intro hg<;>(try rw[hg])<;>try simp only[NM]at hg)|omega|simp -dsimp (disch:=try exact zo) only[go_sem,k0,kW]|contradiction|rfl)
end Go.Proofs.Vx
namespace Go.Proofs.Vx
open Go Go.Sx Go.Proofs
attribute [local irreducible] fnT CallOK CallFr AW effV callV runP runO oneP oneO gcaseP hid
theorem yfn_174:fnT Tryz.prog 174=true:=by kernel_rfl
set_option maxHeartbeats 8000000 in
theorem c174 (a b:ByteArray) (ha:a.size<1099511627776) (hb:b.size<1099511627776):CallOK Tryz.prog 174 [.lit (.string a),.lit (.string b)] [] (.lit (.string (nb (nv a+nv b)))) []:=by
 refine CallOK.flat Tryz.func174 rfl 45 rfl rfl rfl [.tmp 4] (congrArg Array.toList Tryz.results174) ?_
 simp only[startT,Nat.reduceAdd]
 have hml:maxLen=9223372036854775807:=rfl
 have hi0:ints .u8 []=[]:=rfl
 obtain ⟨M,h1,h2,h3⟩:∃ M,a.size≤M∧b.size≤M∧M<1099511627776:=⟨max a.size b.size,by omega,by omega,by omega⟩
 repeat' (first|refine zg ?_|(refine AW.cond rfl ?_ ?_<;>intro hc<;>first|simp only[NM]at hc|omega|skip)|refine zr ?_|refine ⟨by omega,?_⟩|(refine zb ?_ ?_<;>intro hg<;>(try rw[hg])<;>try simp only[NM]at hg)|omega|simp -dsimp (disch:=try exact zo) only[go_sem]|contradiction|rfl)
 refine AW.loop (fun z:{p:Nat × List Int × Int // p.1≤M+1∧Dig8 p.2.1∧p.2.1.length=p.1∧(0≤p.2.2∧p.2.2≤1)∧w8 p.2.1+p.2.2*256 ^ p.1=lowN a p.1+lowN b p.1∧(p.1=M+1→p.2.2=0)}=>⟨[(7,.lit (.int .i64 z.1.1)),(6,.lit (.int .i64 z.1.2.2)),(5,.ref 9 0 z.1.1 z.1.1),(0,.lit (.string a)),(1,.lit (.string b))],[(9,.vec 1 (ints .u8 z.1.2.1))],40⟩) (fun z=>M+2 - z.1.1) ⟨(0,[],0),Nat.zero_le _,fun x hx=>by simp at hx,rfl,by dsimp only;omega,by simp[w8,lowN_zero],fun _=>rfl⟩ (Weak.t4 (by refine ⟨?_,?_,?_,?_⟩<;>simp -dsimp (disch:=try exact zo) only[go_sem,ints_in,hi0,ZC])) ?_
 rintro ⟨⟨i,X,c⟩,hi,dX,hX,hc1,hv,hM⟩
 dsimp only at hi dX hX hc1 hv hM ⊢
 have b1:=bt_nat a i
 have b2:=bt_nat b i
 by_cases hgo:(i<a.size∨i<b.size)∨0<c
 ·have hiM:i≤M:=by
   apply Classical.byContradiction
   intro hn
   have:=hM (by omega)
   omega
  have z1:a.size≤i→bt a i=0:=fun h=>bt_out h
  have z2:b.size≤i→bt b i=0:=fun h=>bt_out h
  have hM2:i=M→(c+(bt a i+bt b i)) / 256=0:=fun h=>by have:=z1 (by omega);have:=z2 (by omega);omega
  clear z1 z2 hM
  have hXl:(X++[0]).length=i+1:=by simp[hX]
  have gw:Hid (w8 (X++[(c+(bt a i+bt b i)) % 256])+(c+(bt a i+bt b i)) / 256*256 ^ (i+1)=lowN a (i+1)+lowN b (i+1)):=Hid.mk (by
   have e1:=lowN_succ a i
   have e2:=lowN_succ b i
   rw[w8_append,hX,e1,e2,p256_succ]
   simp only[w8]
   have:(c+(bt a i+bt b i)) % 256=(c+(bt a i+bt b i)) - 256*((c+(bt a i+bt b i)) / 256):=by omega
   rw[this]
   generalize (c+(bt a i+bt b i)) / 256=q at *
   grind)
  clear hv
  by_cases q1:i<a.size
  ·have k1:((i:Int)<(a.size:Int))=True:=eq_true (by omega)
   have k2:True:=trivial
   have k3:True:=trivial
   have hd:0≤(c+(bt a i+bt b i)) % 256∧(c+(bt a i+bt b i)) % 256<256:=by omega
   have wd:IntKind.u8.wrap ((c+(bt a i+bt b i)) % 256)=(c+(bt a i+bt b i)) % 256:=wrapu8 hd.1 hd.2
   have dX1:=dig8_app dX hd
   repeat' (first|refine zg ?_|(refine AW.cond rfl ?_ ?_<;>intro hc<;>first|simp only[NM]at hc|omega|skip)|refine zr ?_|(first|refine callV.flat _ yfn_217 (c217 a i (by omega)) rfl rfl ?_|refine callV.flat _ yfn_217 (c217 b i (by omega)) rfl rfl ?_)|refine ⟨by omega,?_⟩|(refine zb ?_ ?_<;>intro hg<;>(try rw[hg])<;>try simp only[NM]at hg)|omega|simp -dsimp (disch:=try exact zo) only[go_sem,k1,k2,k3,wd,ZT,ints_length,ints_app,hX]|contradiction|rfl)
   all_goals exact AW.stop ⟨⟨(i+1,X++[(c+(bt a i+bt b i)) % 256],(c+(bt a i+bt b i)) / 256),by dsimp only;omega,dX1,by simp[hX],by dsimp only;omega,gw.out,by dsimp only;omega⟩,(Weak.t4 (by refine ⟨?_,?_,?_,?_⟩<;>first|(simp -dsimp (disch:=try exact zo) only[go_sem,ZC,hXl,ints_app];done)|(simp -dsimp (disch:=try exact zo) only[go_sem,ints_in,ZC];done))),by dsimp only;omega⟩
  ·have k1:((i:Int)<(a.size:Int))=False:=eq_false (by omega)
   by_cases q2:i<b.size
   ·have k2:((i:Int)<(b.size:Int))=True:=eq_true (by omega)
    have k3:True:=trivial
    have hd:0≤(c+(bt a i+bt b i)) % 256∧(c+(bt a i+bt b i)) % 256<256:=by omega
    have wd:IntKind.u8.wrap ((c+(bt a i+bt b i)) % 256)=(c+(bt a i+bt b i)) % 256:=wrapu8 hd.1 hd.2
    have dX1:=dig8_app dX hd
    repeat' (first|refine zg ?_|(refine AW.cond rfl ?_ ?_<;>intro hc<;>first|simp only[NM]at hc|omega|skip)|refine zr ?_|(first|refine callV.flat _ yfn_217 (c217 a i (by omega)) rfl rfl ?_|refine callV.flat _ yfn_217 (c217 b i (by omega)) rfl rfl ?_)|refine ⟨by omega,?_⟩|(refine zb ?_ ?_<;>intro hg<;>(try rw[hg])<;>try simp only[NM]at hg)|omega|simp -dsimp (disch:=try exact zo) only[go_sem,k1,k2,k3,wd,ZT,ints_length,ints_app,hX]|contradiction|rfl)
    all_goals exact AW.stop ⟨⟨(i+1,X++[(c+(bt a i+bt b i)) % 256],(c+(bt a i+bt b i)) / 256),by dsimp only;omega,dX1,by simp[hX],by dsimp only;omega,gw.out,by dsimp only;omega⟩,(Weak.t4 (by refine ⟨?_,?_,?_,?_⟩<;>first|(simp -dsimp (disch:=try exact zo) only[go_sem,ZC,hXl,ints_app];done)|(simp -dsimp (disch:=try exact zo) only[go_sem,ints_in,ZC];done))),by dsimp only;omega⟩
   ·have k2:((i:Int)<(b.size:Int))=False:=eq_false (by omega)
    have k3:(0<c)=True:=eq_true (by omega)
    have hd:0≤(c+(bt a i+bt b i)) % 256∧(c+(bt a i+bt b i)) % 256<256:=by omega
    have wd:IntKind.u8.wrap ((c+(bt a i+bt b i)) % 256)=(c+(bt a i+bt b i)) % 256:=wrapu8 hd.1 hd.2
    have dX1:=dig8_app dX hd
    repeat' (first|refine zg ?_|(refine AW.cond rfl ?_ ?_<;>intro hc<;>first|simp only[NM]at hc|omega|skip)|refine zr ?_|(first|refine callV.flat _ yfn_217 (c217 a i (by omega)) rfl rfl ?_|refine callV.flat _ yfn_217 (c217 b i (by omega)) rfl rfl ?_)|refine ⟨by omega,?_⟩|(refine zb ?_ ?_<;>intro hg<;>(try rw[hg])<;>try simp only[NM]at hg)|omega|simp -dsimp (disch:=try exact zo) only[go_sem,k1,k2,k3,wd,ZT,ints_length,ints_app,hX]|contradiction|rfl)
    all_goals exact AW.stop ⟨⟨(i+1,X++[(c+(bt a i+bt b i)) % 256],(c+(bt a i+bt b i)) / 256),by dsimp only;omega,dX1,by simp[hX],by dsimp only;omega,gw.out,by dsimp only;omega⟩,(Weak.t4 (by refine ⟨?_,?_,?_,?_⟩<;>first|(simp -dsimp (disch:=try exact zo) only[go_sem,ZC,hXl,ints_app];done)|(simp -dsimp (disch:=try exact zo) only[go_sem,ints_in,ZC];done))),by dsimp only;omega⟩
 ·have k1:((i:Int)<(a.size:Int))=False:=eq_false (by omega)
  have k2:((i:Int)<(b.size:Int))=False:=eq_false (by omega)
  have k3:(0<c)=False:=eq_false (by omega)
  have hfin:nb (nv ⟨(ofI X).toArray⟩)=nb (nv a+nv b):=by
   congr 1
   have e1:=str_nv X dX
   have e2:=lowN_all (m:=a) (i:=i) (by omega)
   have e3:=lowN_all (m:=b) (i:=i) (by omega)
   have e4:c=0:=by omega
   rw[e2,e3,e4]at hv
   omega
  clear hv hM
  repeat' (first|refine zg ?_|(refine AW.cond rfl ?_ ?_<;>intro hc<;>first|simp only[NM]at hc|omega|skip)|refine zr ?_|refine ⟨by omega,?_⟩|(refine zb ?_ ?_<;>intro hg<;>(try rw[hg])<;>try simp only[NM]at hg)|omega|simp -dsimp (disch:=try exact zo) only[go_sem,hX,ints_length,k1,k2,k3]|contradiction|rfl)
  all_goals
   refine ⟨ofI X,by first|exact ints_enc8 _ dX|(rw[List.take_of_length_le (by first|omega|(rw[ints_length];omega))];exact ints_enc8 _ dX),?_⟩
   repeat' (first|refine zg ?_|(refine AW.cond rfl ?_ ?_<;>intro hc<;>first|simp only[NM]at hc|omega|skip)|refine zr ?_|(refine callV.flat _ yfn_153 (c153 _ (by rw[str_size];omega)) rfl rfl ?_)|refine ⟨by omega,?_⟩|(refine zb ?_ ?_<;>intro hg<;>(try rw[hg])<;>try simp only[NM]at hg)|omega|simp -dsimp (disch:=try exact zo) only[go_sem,hfin]|contradiction|rfl)
end Go.Proofs.Vx
