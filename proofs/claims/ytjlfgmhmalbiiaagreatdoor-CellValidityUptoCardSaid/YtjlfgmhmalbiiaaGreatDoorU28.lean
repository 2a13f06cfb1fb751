import Derived.Test.YtjlfgmhmalbiiaaGreatDoorProg
import Derived.Test.YtjlfgmhmalbiiaaGreatDoorU11
import Derived.Test.YtjlfgmhmalbiiaaGreatDoorU13
import Derived.Test.YtjlfgmhmalbiiaaGreatDoorU27
set_option linter.all false
namespace Go.Sx
set_option linter.unusedVariables false
def w8:List Int→Int
 | []=>0
 | d::t=>d+256*w8 t
def Dig8 (xs:List Int):Prop:=∀ x∈xs,0≤x∧x<256
theorem p256_succ (n:Nat):(256:Int) ^ (n+1)=256*256 ^ n:=by rw[Int.pow_succ,Int.mul_comm]
theorem p256_nat (n:Nat):((256 ^ n:Nat):Int)=(256:Int) ^ n:=Int.natCast_pow 256 n
theorem p256_pos (n:Nat):(0:Int)<256 ^ n:=Int.pow_pos (by decide)
theorem w8_append (a b:List Int):w8 (a++b)=w8 a+256 ^ a.length*w8 b:=by
 induction a with
 | nil=>simp[w8]
 | cons x a ih =>
  simp only[List.cons_append,w8,ih,List.length_cons,p256_succ,Int.mul_add,Int.mul_assoc]
  omega
theorem w8_rep (n:Nat):w8 (List.replicate n 0)=0:=by
 induction n with
 | zero=>rfl
 | succ n ih=>simp[List.replicate_succ,w8,ih]
theorem w8_set {xs:List Int} {i:Nat} (h:i<xs.length) (d:Int):w8 (xs.set i d)=w8 xs+(d - xs.getD i 0)*256 ^ i:=by
 induction xs generalizing i with
 | nil=>simp at h
 | cons x xs ih =>
  cases i with
  | zero=>simp[w8];omega
  | succ i =>
   have:=ih (i:=i) (by simpa using h)
   simp only[List.set_cons_succ,w8,this,List.getD_cons_succ,p256_succ,Int.mul_add,Int.mul_left_comm (256:Int)]
   omega
theorem dig8_set {xs:List Int} (h:Dig8 xs) {i:Nat} {d:Int} (hd:0≤d∧d<256):Dig8 (xs.set i d):=fun x hx=>by
 rcases List.mem_or_eq_of_mem_set hx with hx|rfl
 ·exact h x hx
 ·exact hd
theorem dig8_app {xs:List Int} (h:Dig8 xs) {d:Int} (hd:0≤d∧d<256):Dig8 (xs++[d]):=fun x hx=>by
 rcases List.mem_append.1 hx with hx|hx
 ·exact h x hx
 ·obtain rfl:x=d:=by simpa using hx
  exact hd
theorem dig8_getD {xs:List Int} (h:Dig8 xs) (i:Nat):0≤xs.getD i 0∧xs.getD i 0<256:=by
 rw[List.getD_eq_getElem?_getD]
 by_cases hi:i<xs.length
 ·rw[List.getElem?_eq_getElem hi];exact h _ (List.getElem_mem hi)
 ·rw[List.getElem?_eq_none (by omega)];decide
theorem w8_lt {xs:List Int} (h:Dig8 xs):0≤w8 xs∧w8 xs<256 ^ xs.length:=by
 induction xs with
 | nil=>decide
 | cons x xs ih =>
  obtain ⟨i1,i2⟩:=ih fun y hy=>h y (by simp[hy])
  have:=h x (by simp)
  simp only[w8,List.length_cons,p256_succ]
  omega
theorem nvL_ofI {xs:List Int} (h:Dig8 xs):(nvL (ofI xs):Int)=w8 xs:=by
 induction xs with
 | nil=>rfl
 | cons x xs ih =>
  have ih:=ih fun y hy=>h y (by simp[hy])
  have hx:=h x (by simp)
  have e:(UInt8.ofNat x.toNat).toNat=x.toNat:=by
   rw[UInt8.toNat_ofNat'];exact Nat.mod_eq_of_lt (by omega)
  simp only[ofI,List.map_cons,nvL,w8,e]at ih ⊢
  rw[← ih]
  omega
def lowN (m:ByteArray) (i:Nat):Int:=((nv m % 256 ^ i:Nat):Int)
theorem lowN_zero (m:ByteArray):lowN m 0=0:=by simp[lowN,Nat.mod_one]
theorem lowN_all {m:ByteArray} {i:Nat} (h:m.size≤i):lowN m i=(nv m:Int):=by
 unfold lowN
 rw[Nat.mod_eq_of_lt (Nat.lt_of_lt_of_le (nv_lt m) (Nat.pow_le_pow_right (by decide) h))]
theorem lowN_succ (m:ByteArray) (i:Nat):lowN m (i+1)=lowN m i+bt m i*256 ^ i:=by
 unfold lowN
 rw[bt_div]
 have h:nv m % 256 ^ (i+1)=nv m % 256 ^ i+256 ^ i*(nv m / 256 ^ i % 256):=by rw[Nat.pow_succ,Nat.mod_mul]
 rw[h,Int.natCast_add,Int.natCast_mul,p256_nat,Int.mul_comm ((256:Int) ^ i)]
theorem lowN_lt (m:ByteArray) (i:Nat):0≤lowN m i∧lowN m i<256 ^ i:=by
 unfold lowN
 have h:=Nat.mod_lt (nv m) (Nat.pow_pos (n:=i) (show 0<256 by decide))
 have h2:=p256_nat i
 omega
theorem lowN_nonneg (m:ByteArray) (i:Nat):0≤lowN m i:=(lowN_lt m i).1
theorem bt_out {m:ByteArray} {i:Nat} (h:m.size≤i):bt m i=0:=by
 unfold bt
 have:m.data.getD i 0=0:=by
  simp only[Array.getD_eq_getD_getElem?]
  rw[Array.getElem?_eq_none (by exact h)];rfl
 rw[this];rfl
def highN (m:ByteArray) (i:Nat):Nat:=nv m / 256 ^ i
theorem highN_zero (m:ByteArray):highN m 0=nv m:=by simp[highN]
theorem highN_all {m:ByteArray} {i:Nat} (h:m.size≤i):highN m i=0:=Nat.div_eq_of_lt (Nat.lt_of_lt_of_le (nv_lt m) (Nat.pow_le_pow_right (by decide) h))
theorem highN_succ (m:ByteArray) (i:Nat):highN m i=(bt m i).toNat+256*highN m (i+1):=by
 unfold highN
 rw[bt_div,Int.toNat_natCast,Nat.pow_succ,← Nat.div_div_eq_div_mul]
 omega
end Go.Sx
namespace Go.Sx
set_option linter.unusedVariables false
theorem bt_ext {m:ByteArray} {n i:Nat} (hn:n≤m.size) (hi:i<n):bt (m.extract 0 n) i=bt m i:=by
 unfold bt
 have h1:i<m.data.size:=Nat.lt_of_lt_of_le hi hn
 have h2:i<(m.extract 0 n).data.size:=by rw[ByteArray.data_extract,Array.size_extract];omega
 rw[Array.getD_eq_getD_getElem?,Array.getD_eq_getD_getElem?,Array.getElem?_eq_getElem h1,Array.getElem?_eq_getElem h2]
 simp[ByteArray.data_extract]
theorem ext_ext (m:ByteArray) (n k:Nat) (h:k≤n):(m.extract 0 n).extract 0 k=m.extract 0 k:=by
 apply ByteArray.ext
 simp only[ByteArray.data_extract,Array.extract_extract]
 congr 1
 omega
theorem ext_size {m:ByteArray} {n:Nat} (h:n≤m.size):(m.extract 0 n).size=n:=by rw[ByteArray.size_extract];omega
theorem ext_chop {m:ByteArray} {n:Nat} (hn:n+1≤m.size) (hb:bt m n=0):nv (m.extract 0 n)=nv (m.extract 0 (n+1)):=by
 have h1:=ext_size hn
 have:=nv_chop (m:=m.extract 0 (n+1)) (by omega) (by rw[h1,bt_ext hn (by omega)];exact hb)
 rw[h1,ext_ext m (n+1) _ (by omega)]at this
 exact this
theorem ext_nb {m:ByteArray} {n:Nat} (hn:n≤m.size) (hv:nv (m.extract 0 n)=nv m) (h:n=0∨bt m (n - 1)≠0):m.extract 0 n=nb (nv m):=by
 rw[← hv,nb_nv]
 rw[ext_size hn]
 rcases h with h|h
 ·exact .inl h
 ·by_cases h0:n=0
  ·exact .inl h0
  ·right;rw[bt_ext hn (by omega)];exact h
theorem ext_all (m:ByteArray):m.extract 0 m.size=m:=by
 apply ByteArray.ext
 simp[ByteArray.data_extract]
end Go.Sx
namespace Go.Sx
theorem nv_cat {m r:ByteArray} {j:Nat} (hj:j<m.size):nv (m.extract j (j+1)++r)=(bt m j).toNat+256*nv r:=by
 have h1:(m.extract j (j+1)++r).data.toList=(m.extract j (j+1)).data.toList++r.data.toList:=by simp
 have h2:(m.extract j (j+1)).data.toList=[m.data.toList[j]'(by simpa using hj)]:=by
  rw[ByteArray.data_extract,Array.toList_extract,List.extract_eq_take_drop]
  have:j<m.data.toList.length:=by simpa using hj
  rw[List.drop_eq_getElem_cons this,show j+1 - j=1 by omega]
  rfl
 have h3:=bt_get m j (by simpa using hj)
 unfold nv
 rw[h1,h2,h3]
 simp[nvL]
theorem cat_size {m r:ByteArray} {j:Nat} (hj:j<m.size):(m.extract j (j+1)++r).size=r.size+1:=by
 rw[ByteArray.size_append,ByteArray.size_extract];omega
end Go.Sx
namespace Go.Proofs.Vx
open Go Go.Sx Go.Proofs
attribute [local irreducible] fnT CallOK CallFr AW effV callV runP runO oneP oneO gcaseP hid
theorem yfn_153:fnT Tryz.prog 153=true:=by kernel_rfl
theorem yfn_207:fnT Tryz.prog 207=true:=by kernel_rfl
theorem yfn_217:fnT Tryz.prog 217=true:=by kernel_rfl
set_option maxHeartbeats 1600000 in
theorem c153 (m:ByteArray) (hm:m.size<4611686018427387904):CallOK Tryz.prog 153 [.lit (.string m)] [] (.lit (.string (nb (nv m)))) []:=by
 refine CallOK.flat Tryz.func153 rfl 20 rfl rfl rfl [.tmp 2] (congrArg Array.toList Tryz.results153) ?_
 simp only[startT,Nat.reduceAdd]
 repeat' (first|refine zg ?_|(refine AW.cond rfl ?_ ?_<;>intro hc<;>try simp only[NM]at hc)|refine zr ?_|refine ⟨by omega,?_⟩|(refine zb ?_ ?_<;>intro hg<;>(try rw[hg])<;>try simp only[NM]at hg)|omega|simp -dsimp (disch:=try exact zo) only[go_sem]|contradiction|rfl)
 refine AW.loop (fun z:{n:Nat // n≤m.size∧nv (m.extract 0 n)=nv m}=>⟨[(3,.lit (.int .i64 z.1)),(0,.lit (.string m))],[],20⟩) (fun z=>z.1) ⟨m.size,Nat.le_refl _,by rw[ext_all]⟩ (Weak.t4 (by refine ⟨?_,?_,?_,?_⟩<;>simp -dsimp (disch:=try exact zo) only[go_sem,ZC])) ?_
 rintro ⟨n,hn,hv⟩
 dsimp only
 cases n with
 | zero =>
  have hr:=ext_nb hn hv (.inl rfl)
  repeat' (first|refine zg ?_|(refine AW.cond rfl ?_ ?_<;>intro hc<;>first|simp only[NM]at hc|omega|skip)|refine zr ?_|refine ⟨by omega,?_⟩|(refine zb ?_ ?_<;>intro hg<;>(try rw[hg])<;>try simp only[NM]at hg)|omega|simp -dsimp (disch:=try exact zo) only[go_sem,ZT,hr,Int.ofNat_zero,Int.cast_ofNat_Int,Int.natCast_zero]|contradiction|rfl)
 | succ n =>
  have e:((n+1:Nat):Int) - 1=(n:Int):=by omega
  by_cases q:bt m n=0
  ·have k1:=eq_true q
   have hc2:=ext_chop hn q
   have hr:True:=trivial
   repeat' (first|refine zg ?_|(refine AW.cond rfl ?_ ?_<;>intro hc<;>first|simp only[NM]at hc|omega|skip)|refine zr ?_|refine ⟨by omega,?_⟩|(refine zb ?_ ?_<;>intro hg<;>(try rw[hg])<;>try simp only[NM]at hg)|omega|simp -dsimp (disch:=try exact zo) only[go_sem,e,ZT,k1,hr]|contradiction|rfl)
   all_goals exact AW.stop ⟨⟨n,by omega,hc2.trans hv⟩,(Weak.t4 (by refine ⟨?_,?_,?_,?_⟩<;>simp -dsimp (disch:=try exact zo) only[go_sem,e,ZC])),by dsimp only;omega⟩
  ·have k1:=eq_false q
   have hr:=ext_nb hn hv (.inr q)
   repeat' (first|refine zg ?_|(refine AW.cond rfl ?_ ?_<;>intro hc<;>first|simp only[NM]at hc|omega|skip)|refine zr ?_|refine ⟨by omega,?_⟩|(refine zb ?_ ?_<;>intro hg<;>(try rw[hg])<;>try simp only[NM]at hg)|omega|simp -dsimp (disch:=try exact zo) only[go_sem,e,ZT,k1,hr]|contradiction|rfl)
set_option maxHeartbeats 1600000 in
theorem c217 (m:ByteArray) (i:Nat) (hm:m.size<4611686018427387904):CallOK Tryz.prog 217 [.lit (.string m),.lit (.int .i64 i)] [] (.lit (.int .i64 (bt m i))) []:=by
 refine CallOK.flat Tryz.func217 rfl 13 rfl rfl rfl [.tmp 4] (congrArg Array.toList Tryz.results217) ?_
 simp only[startT,Nat.reduceAdd]
 by_cases hi:i<m.size
 ·repeat' (first|refine zg ?_|(refine AW.cond rfl ?_ ?_<;>intro hc<;>first|simp only[NM]at hc|omega|skip)|refine zr ?_|refine ⟨by omega,?_⟩|(refine zb ?_ ?_<;>intro hg<;>(try rw[hg])<;>try simp only[NM]at hg)|omega|simp -dsimp (disch:=try exact zo) only[go_sem,ZT,wrap64_bt]|contradiction|rfl)
 ·have hr:=bt_out (m:=m) (i:=i) (by omega)
  rw[hr]
  repeat' (first|refine zg ?_|(refine AW.cond rfl ?_ ?_<;>intro hc<;>first|simp only[NM]at hc|omega|skip)|refine zr ?_|refine ⟨by omega,?_⟩|(refine zb ?_ ?_<;>intro hg<;>(try rw[hg])<;>try simp only[NM]at hg)|omega|simp -dsimp (disch:=try exact zo) only[go_sem]|contradiction|rfl)
set_option maxHeartbeats 3200000 in
theorem c207 (a b:ByteArray) (ha:a.size<1099511627776) (hb:b.size<1099511627776):CallOK Tryz.prog 207 [.lit (.string a),.lit (.string b)] [] (.lit (.int .i64 (cmpN (nv a) (nv b)))) []:=by
 refine CallOK.flat Tryz.func207 rfl 43 rfl rfl rfl [.tmp 4] (congrArg Array.toList Tryz.results207) ?_
 simp only[startT,Nat.reduceAdd]
 have hc0:=can_size a
 have hd0:=can_size b
 have hcn:nv (nb (nv a))=nv a:=nv_nb _
 have hdn:nv (nb (nv b))=nv b:=nv_nb _
 have hlt1:(nb (nv a)).size<(nb (nv b)).size→nv a<nv b:=nb_size_lt
 have hlt2:(nb (nv b)).size<(nb (nv a)).size→nv b<nv a:=nb_size_lt
 have ca:=c153 a (by omega)
 have cb:=c153 b (by omega)
 generalize hcc:nb (nv a)=c at *
 generalize hdd:nb (nv b)=d at *
 rw[← hcn,← hdn]
 clear hcc hdd
 by_cases q1:c.size<d.size
 ·have:cmpN (nv c) (nv d)=-1:=by unfold cmpN;rw[if_pos (by rw[hcn,hdn];exact hlt1 q1)]
  rw[this]
  repeat' (first|refine zg ?_|(refine AW.cond rfl ?_ ?_<;>intro hc<;>first|simp only[NM]at hc|omega|skip)|refine zr ?_|(first|refine callV.flat _ yfn_153 ca rfl rfl ?_|refine callV.flat _ yfn_153 cb rfl rfl ?_)|refine ⟨by omega,?_⟩|(refine zb ?_ ?_<;>intro hg<;>(try rw[hg])<;>try simp only[NM]at hg)|omega|simp -dsimp (disch:=try exact zo) only[go_sem]|contradiction|rfl)
 ·by_cases q2:d.size<c.size
  ·have:cmpN (nv c) (nv d)=1:=by have:=hlt2 q2;unfold cmpN;rw[if_neg (by omega),if_neg (by omega)]
   rw[this]
   repeat' (first|refine zg ?_|(refine AW.cond rfl ?_ ?_<;>intro hc<;>first|simp only[NM]at hc|omega|skip)|refine zr ?_|(first|refine callV.flat _ yfn_153 ca rfl rfl ?_|refine callV.flat _ yfn_153 cb rfl rfl ?_)|refine ⟨by omega,?_⟩|(refine zb ?_ ?_<;>intro hg<;>(try rw[hg])<;>try simp only[NM]at hg)|omega|simp -dsimp (disch:=try exact zo) only[go_sem]|contradiction|rfl)
  ·have hsz:d.size=c.size:=by omega
   clear hlt1 hlt2 hcn hdn
   repeat' (first|refine zg ?_|(refine AW.cond rfl ?_ ?_<;>intro hc<;>first|simp only[NM]at hc|omega|skip)|refine zr ?_|(first|refine callV.flat _ yfn_153 ca rfl rfl ?_|refine callV.flat _ yfn_153 cb rfl rfl ?_)|refine ⟨by omega,?_⟩|(refine zb ?_ ?_<;>intro hg<;>(try rw[hg])<;>try simp only[NM]at hg)|omega|simp -dsimp (disch:=try exact zo) only[go_sem]|contradiction|rfl)
   refine AW.loop (fun z:{i:Nat // i≤c.size∧nv c / 256 ^ (c.size - i)=nv d / 256 ^ (c.size - i)}=>⟨[(7,.lit (.int .i64 ((c.size:Int) - 1 - z.1))),(5,.lit (.string c)),(6,.lit (.string d))],[],30⟩) (fun z=>c.size - z.1) ⟨0,Nat.zero_le _,by
    have h1:=nv_lt c
    have h2:=nv_lt d
    rw[hsz]at h2
    rw[Nat.sub_zero,Nat.div_eq_of_lt h1,Nat.div_eq_of_lt h2]⟩ (Weak.t4 (by refine ⟨?_,?_,?_,?_⟩<;>simp -dsimp (disch:=try exact zo) only[go_sem,Int.sub_zero,Int.natCast_zero,Int.ofNat_zero,Int.cast_ofNat_Int,Int.natCast_add])) ?_
   rintro ⟨i,hi,hq⟩
   dsimp only
   by_cases hil:i<c.size
   ·have ek:((c.size:Int) - 1 - i).toNat=c.size - 1 - i:=by omega
    have hq1:nv c / 256 ^ (c.size - 1 - i+1)=nv d / 256 ^ (c.size - 1 - i+1):=by rwa [show c.size - 1 - i+1=c.size - i by omega]
    have b1:=bt_div c (c.size - 1 - i)
    have b2:=bt_div d (c.size - 1 - i)
    by_cases w1:bt c (c.size - 1 - i)<bt d (c.size - 1 - i)
    ·have hr:cmpN (nv c) (nv d)=-1:=by unfold cmpN;rw[if_pos ((cmp_top hq1).1 (by omega))]
     have k1:=eq_true w1
     have k2:True:=trivial
     rw[hr]
     clear hq hq1 b1 b2
     repeat' (first|refine zg ?_|(refine AW.cond rfl ?_ ?_<;>intro hc<;>first|simp only[NM]at hc|omega|skip)|refine zr ?_|refine ⟨by omega,?_⟩|(refine zb ?_ ?_<;>intro hg<;>(try rw[hg])<;>try simp only[NM]at hg)|omega|simp -dsimp (disch:=try exact zo) only[go_sem,ek,k1,k2]|contradiction|rfl)
    ·by_cases w2:bt d (c.size - 1 - i)<bt c (c.size - 1 - i)
     ·have hr:cmpN (nv c) (nv d)=1:=by
       have:=(cmp_top hq1.symm).1 (by omega)
       unfold cmpN;rw[if_neg (by omega),if_neg (by omega)]
      have k1:=eq_false w1
      have k2:=eq_true w2
      rw[hr]
      clear hq hq1 b1 b2
      repeat' (first|refine zg ?_|(refine AW.cond rfl ?_ ?_<;>intro hc<;>first|simp only[NM]at hc|omega|skip)|refine zr ?_|refine ⟨by omega,?_⟩|(refine zb ?_ ?_<;>intro hg<;>(try rw[hg])<;>try simp only[NM]at hg)|omega|simp -dsimp (disch:=try exact zo) only[go_sem,ek,k1,k2]|contradiction|rfl)
     ·have k1:=eq_false w1
      have k2:=eq_false w2
      have hn:nv c / 256 ^ (c.size - (i+1))=nv d / 256 ^ (c.size - (i+1)):=by
       rw[show c.size - (i+1)=c.size - 1 - i by omega]
       exact (cmp_top hq1).2 (by omega)
      have hsb:(c.size:Int) - 1 - ((i:Int)+1)=(c.size:Int) - 1 - i - 1:=by omega
      clear hq hq1 b1 b2
      repeat' (first|refine zg ?_|(refine AW.cond rfl ?_ ?_<;>intro hc<;>first|simp only[NM]at hc|omega|skip)|refine zr ?_|refine ⟨by omega,?_⟩|(refine zb ?_ ?_<;>intro hg<;>(try rw[hg])<;>try simp only[NM]at hg)|omega|simp -dsimp (disch:=try exact zo) only[go_sem,ek,k1,k2]|contradiction|rfl)
      all_goals exact AW.stop ⟨⟨i+1,by omega,hn⟩,(Weak.to (by simp -dsimp (disch:=try exact zo) only[go_sem,ZC,hsb]) (by simp -dsimp (disch:=try exact zo) only[go_sem,ZC]) (by decide) (by simp -dsimp (disch:=try exact zo) only[go_sem,ZC]) (by simp -dsimp (disch:=try exact zo) only[go_sem,ZC])),by dsimp only;omega⟩
   ·have e:c.size - i=0:=by omega
    rw[e]at hq
    simp only[Nat.pow_zero,Nat.div_one]at hq
    have hr:cmpN (nv c) (nv d)=0:=by unfold cmpN;rw[hq,if_neg (by omega),if_pos rfl]
    rw[hr]
    repeat' (first|refine zg ?_|(refine AW.cond rfl ?_ ?_<;>intro hc<;>first|simp only[NM]at hc|omega|skip)|refine zr ?_|refine ⟨by omega,?_⟩|(refine zb ?_ ?_<;>intro hg<;>(try rw[hg])<;>try simp only[NM]at hg)|omega|simp -dsimp (disch:=try exact zo) only[go_sem]|contradiction|rfl)
end Go.Proofs.Vx
namespace Go.Proofs.Vx
open Go Go.Sx Go.Proofs
attribute [local irreducible] fnT CallOK CallFr AW effV callV runP runO oneP oneO gcaseP hid
theorem yfn_173:fnT Tryz.prog 173=true:=by kernel_rfl
theorem yfn_175:fnT Tryz.prog 175=true:=by kernel_rfl
theorem yfn_208:fnT Tryz.prog 208=true:=by kernel_rfl
theorem str_nv (X:List Int) (h:Dig8 X):(nv ⟨(ofI X).toArray⟩:Int)=w8 X:=by
 have:nv ⟨(ofI X).toArray⟩=nvL (ofI X):=by unfold nv;simp
 rw[this,nvL_ofI h]
theorem str_size (X:List Int):(⟨(ofI X).toArray⟩:ByteArray).size=X.length:=by simp[ByteArray.size,ofI]
set_option maxHeartbeats 8000000 in
theorem c175 (a b:ByteArray) (ha:a.size<1099511627776) (hb:b.size<1099511627776) (hle:nv b≤nv a):CallOK Tryz.prog 175 [.lit (.string a),.lit (.string b)] [] (.tup [.lit (.string (nb (nv a - nv b))),.lit (.bool true)]) []:=by
 refine CallOK.flat Tryz.func175 rfl 42 rfl rfl rfl [.tmp 4,.tmp 5] (congrArg Array.toList Tryz.results175) ?_
 simp only[startT,Nat.reduceAdd]
 have hml:maxLen=9223372036854775807:=rfl
 have c207x:=c207 a b ha hb
 have hi0:ints .u8 []=[]:=rfl
 have hc0:0≤cmpN (nv a) (nv b):=by unfold cmpN;rw[if_neg (by omega)];split<;>omega
 generalize cmpN (nv a) (nv b)=cm at *
 have k0:(cm<0)=False:=eq_false (by omega)
 repeat' (first|refine zg ?_|(refine AW.cond rfl ?_ ?_<;>intro hc<;>first|simp only[NM]at hc|omega|skip)|refine zr ?_|(refine callV.flat _ yfn_207 c207x rfl rfl ?_)|refine ⟨by omega,?_⟩|(refine zb ?_ ?_<;>intro hg<;>(try rw[hg])<;>try simp only[NM]at hg)|omega|simp -dsimp (disch:=try exact zo) only[go_sem,k0]|contradiction|rfl)
 refine AW.loop (fun z:{p:Nat × List Int × Int // p.1≤a.size∧Dig8 p.2.1∧p.2.1.length=p.1∧(p.2.2=0∨p.2.2=1)∧w8 p.2.1=lowN a p.1 - lowN b p.1+p.2.2*256 ^ p.1}=>⟨[(8,.lit (.int .i64 z.1.1)),(7,.lit (.int .i64 z.1.2.2)),(6,.ref 14 0 z.1.1 z.1.1),(0,.lit (.string a)),(1,.lit (.string b))],[(14,.vec 1 (ints .u8 z.1.2.1))],40⟩) (fun z=>a.size - z.1.1) ⟨(0,[],0),Nat.zero_le _,fun x hx=>by simp at hx,rfl,.inl rfl,by simp[w8,lowN_zero]⟩ (Weak.t4 (by refine ⟨?_,?_,?_,?_⟩<;>simp -dsimp (disch:=try exact zo) only[go_sem,ints_in,hi0,ZC])) ?_
 rintro ⟨⟨i,X,c⟩,hi,dX,hX,hc1,hv⟩
 dsimp only at hi dX hX hc1 hv ⊢
 clear k0 c207x hc0
 by_cases hlt:i<a.size
 ·have b1:=bt_nat a i
  have b2:=bt_nat b i
  have e1:=lowN_succ a i
  have e2:=lowN_succ b i
  have key:∀ d c':Int,d=bt a i - bt b i - c+256*c'→w8 (X++[d])=lowN a (i+1) - lowN b (i+1)+c'*256 ^ (i+1):=by
   intro d c' hd
   rw[w8_append,hX,hv,e1,e2,hd,p256_succ]
   simp only[w8]
   grind
  have hXl:(X++[0]).length=i+1:=by simp[hX]
  by_cases q:bt a i - bt b i - c<0
  ·have k1:=eq_true q
   have hd:0≤bt a i - bt b i - c+256∧bt a i - bt b i - c+256<256:=by omega
   have wd:IntKind.u8.wrap (bt a i - bt b i - c+256)=bt a i - bt b i - c+256:=wrapu8 hd.1 hd.2
   have key1:=key (bt a i - bt b i - c+256) 1 (by omega)
   have dX1:=dig8_app dX hd
   clear key e1 e2 hv
   repeat' (first|refine zg ?_|(refine AW.cond rfl ?_ ?_<;>intro hc<;>first|simp only[NM]at hc|omega|skip)|refine zr ?_|(first|refine callV.flat _ yfn_217 (c217 a i (by omega)) rfl rfl ?_|refine callV.flat _ yfn_217 (c217 b i (by omega)) rfl rfl ?_)|refine ⟨by omega,?_⟩|(refine zb ?_ ?_<;>intro hg<;>(try rw[hg])<;>try simp only[NM]at hg)|omega|simp -dsimp (disch:=try exact zo) only[go_sem,k1,wd,ZT,ints_length,ints_app,hX]|contradiction|rfl)
   all_goals exact AW.stop ⟨⟨(i+1,X++[bt a i - bt b i - c+256],1),by dsimp only;omega,dX1,by simp[hX],.inr rfl,key1⟩,(Weak.t4 (by refine ⟨?_,?_,?_,?_⟩<;>first|(simp -dsimp (disch:=try exact zo) only[go_sem,ZC,hXl,ints_app];done)|(simp -dsimp (disch:=try exact zo) only[go_sem,ints_in,ZC];done))),by dsimp only;omega⟩
  ·have k1:=eq_false q
   have hd:0≤bt a i - bt b i - c∧bt a i - bt b i - c<256:=by omega
   have wd:IntKind.u8.wrap (bt a i - bt b i - c)=bt a i - bt b i - c:=wrapu8 hd.1 hd.2
   have key1:=key (bt a i - bt b i - c) 0 (by omega)
   have dX1:=dig8_app dX hd
   clear key e1 e2 hv
   repeat' (first|refine zg ?_|(refine AW.cond rfl ?_ ?_<;>intro hc<;>first|simp only[NM]at hc|omega|skip)|refine zr ?_|(first|refine callV.flat _ yfn_217 (c217 a i (by omega)) rfl rfl ?_|refine callV.flat _ yfn_217 (c217 b i (by omega)) rfl rfl ?_)|refine ⟨by omega,?_⟩|(refine zb ?_ ?_<;>intro hg<;>(try rw[hg])<;>try simp only[NM]at hg)|omega|simp -dsimp (disch:=try exact zo) only[go_sem,k1,wd,ZT,ints_length,ints_app,hX]|contradiction|rfl)
   all_goals exact AW.stop ⟨⟨(i+1,X++[bt a i - bt b i - c],0),by dsimp only;omega,dX1,by simp[hX],.inl rfl,key1⟩,(Weak.t4 (by refine ⟨?_,?_,?_,?_⟩<;>first|(simp -dsimp (disch:=try exact zo) only[go_sem,ZC,hXl,ints_app];done)|(simp -dsimp (disch:=try exact zo) only[go_sem,ints_in,ZC];done))),by dsimp only;omega⟩
 ·have hil:i=a.size:=by omega
  subst hil
  have hfin:nb (nv ⟨(ofI X).toArray⟩)=nb (nv a - nv b):=by
   congr 1
   have h1:=str_nv X dX
   have h2:=lowN_all (m:=a) (Nat.le_refl _)
   have h3:lowN b a.size=(nv b:Int):=by unfold lowN;rw[Nat.mod_eq_of_lt (Nat.lt_of_le_of_lt hle (nv_lt a))]
   have h4:=(w8_lt dX).2
   rw[hX]at h4
   have h5:=p256_pos a.size
   rcases hc1 with rfl|rfl
   ·omega
   ·omega
  clear hv
  repeat' (first|refine zg ?_|(refine AW.cond rfl ?_ ?_<;>intro hc<;>first|simp only[NM]at hc|omega|skip)|refine zr ?_|refine ⟨by omega,?_⟩|(refine zb ?_ ?_<;>intro hg<;>(try rw[hg])<;>try simp only[NM]at hg)|omega|simp -dsimp (disch:=try exact zo) only[go_sem,hX,ints_length]|contradiction|rfl)
  all_goals
   refine ⟨ofI X,by first|exact ints_enc8 _ dX|(rw[List.take_of_length_le (by first|omega|(rw[ints_length];omega))];exact ints_enc8 _ dX),?_⟩
   repeat' (first|refine zg ?_|(refine AW.cond rfl ?_ ?_<;>intro hc<;>first|simp only[NM]at hc|omega|skip)|refine zr ?_|(refine callV.flat _ yfn_153 (c153 _ (by rw[str_size];omega)) rfl rfl ?_)|refine ⟨by omega,?_⟩|(refine zb ?_ ?_<;>intro hg<;>(try rw[hg])<;>try simp only[NM]at hg)|omega|simp -dsimp (disch:=try exact zo) only[go_sem,hfin]|contradiction|rfl)
end Go.Proofs.Vx
namespace Go.Proofs.Vx
open Go Go.Sx Go.Proofs
attribute [local irreducible] fnT CallOK CallFr AW effV callV runP runO oneP oneO gcaseP hid
theorem yst_159:strT Tryz.prog 159=false:=by kernel_rfl
attribute [go_sem] yst_159
set_option maxHeartbeats 16000000 in
theorem c173 (a b:ByteArray) (ha:a.size<1099511627776) (hb:b.size<1099511627776):CallOK Tryz.prog 173 [.lit (.string a),.lit (.string b)] [] (.lit (.string (nb (nv a*nv b)))) []:=by
 refine CallOK.flat Tryz.func173 rfl 77 rfl rfl rfl [.tmp 4] (congrArg Array.toList Tryz.results173) ?_
 simp only[startT,Nat.reduceAdd]
 have hml:maxLen=9223372036854775807:=rfl
 have hi0:ints .u8 []=[]:=rfl
 obtain ⟨L,hL⟩:∃ L,L=a.size+b.size+1:=⟨_,rfl⟩
 have eL:((a.size:Int)+b.size+1).toNat=L:=by omega
 repeat' (first|refine zg ?_|(refine AW.cond rfl ?_ ?_<;>intro hc<;>first|simp only[NM]at hc|omega|skip)|refine zr ?_|refine ⟨by omega,?_⟩|(refine zb ?_ ?_<;>intro hg<;>(try rw[hg])<;>try simp only[NM]at hg)|omega|simp -dsimp (disch:=try exact zo) only[go_sem]|contradiction|rfl)
 rw[eL]
 refine AW.loop (fun z:{p:Nat × List Int // p.1≤a.size∧Dig8 p.2∧p.2.length=L∧w8 p.2=lowN a p.1*(nv b:Int)}=>⟨[(6,.lit (.int .i64 z.1.1)),(5,.ref 15 0 L L),(0,.lit (.string a)),(1,.lit (.string b))],[(15,.vec 1 (ints .i64 z.1.2))],40⟩) (fun z=>a.size - z.1.1) ⟨(0,List.replicate L 0),Nat.zero_le _,fun x hx=>by have:=List.eq_of_mem_replicate hx;omega,by simp,by simp only[w8_rep,lowN_zero,Int.zero_mul]⟩ (Weak.t4 (by refine ⟨?_,?_,?_,?_⟩<;>simp -dsimp (disch:=try exact zo) only[go_sem,ints_in,ZC])) ?_
 rintro ⟨⟨i,S⟩,hi,dS,hS,hv⟩
 dsimp only at hi dS hS hv ⊢
 by_cases hlt:i<a.size
 ·repeat' (first|refine zg ?_|(refine AW.cond rfl ?_ ?_<;>intro hc<;>first|simp only[NM]at hc|omega|skip)|refine zr ?_|refine ⟨by omega,?_⟩|(refine zb ?_ ?_<;>intro hg<;>(try rw[hg])<;>try simp only[NM]at hg)|omega|simp -dsimp (disch:=try exact zo) only[go_sem]|contradiction|rfl)
  refine AW.loop (fun z:{p:Nat × List Int × Int // p.1≤b.size+1∧Dig8 p.2.1∧p.2.1.length=L∧(0≤p.2.2∧p.2.2≤255)∧w8 p.2.1+p.2.2*256 ^ (i+p.1)=lowN a i*(nv b:Int)+bt a i*lowN b p.1*256 ^ i}=>⟨[(8,.lit (.int .i64 z.1.1)),(7,.lit (.int .i64 z.1.2.2)),(6,.lit (.int .i64 i)),(5,.ref 15 0 L L),(0,.lit (.string a)),(1,.lit (.string b))],[(15,.vec 1 (ints .i64 z.1.2.1))],60⟩) (fun z=>b.size+2 - z.1.1) ⟨(0,S,0),Nat.zero_le _,dS,hS,by dsimp only;omega,by dsimp only;rw[hv,lowN_zero];simp⟩ (Weak.t4 (by refine ⟨?_,?_,?_,?_⟩<;>simp -dsimp (disch:=try exact zo) only[go_sem,ints_in,ZC])) ?_
  clear hv dS hS
  rintro ⟨⟨k,S,c⟩,hk,dS,hSl,hc1,hv⟩
  dsimp only at hk dS hSl hc1 hv ⊢
  have A1:=lowN_succ a i
  have A2:=lowN_lt a (i+1)
  have B0:=lowN_nonneg b k
  by_cases hx:k<b.size∨0<c
  ·
   have hkb:k≤b.size:=by
    rcases hx with hx|hx
    ·omega
    ·apply Classical.byContradiction
     intro hgt
     have hkk:k=b.size+1:=by omega
     have h1:lowN b k=(nv b:Int):=lowN_all (by omega)
     have h2:lowN a i*(nv b:Int)+bt a i*lowN b k*256 ^ i=lowN a (i+1)*(nv b:Int):=by rw[h1,A1];grind
     have h3:=(w8_lt dS).1
     have h4:(256:Int) ^ (i+k)≤c*256 ^ (i+k):=by
      have:=Int.mul_le_mul_of_nonneg_right (show (1:Int)≤c by omega) (Int.le_of_lt (p256_pos (i+k)))
      omega
     have h5:lowN a (i+1)*(nv b:Int)<256 ^ (i+1)*256 ^ b.size:=by
      have h6:(nv b:Int)<256 ^ b.size:=by have:=nv_lt b;have e:=p256_nat b.size;omega
      have h7:=Int.mul_le_mul_of_nonneg_right (Int.le_of_lt A2.2) (show (0:Int)≤(nv b:Int) by omega)
      have h8:=Int.mul_lt_mul_of_pos_left h6 (p256_pos (i+1))
      omega
     rw[← Int.pow_add]at h5
     rw[show i+k=i+1+b.size by omega]at h4 hv
     omega
   have hj:i+k<L:=by omega
   have hS2:=w8_set (xs:=S) (i:=i+k) (by omega)
   have B1:=lowN_succ b k
   have g1:=bt_nat a i
   have g2:=bt_nat b k
   have g3:=dig8_getD dS (i+k)
   have he:(ints .i64 S).getD (i+k) []=[.lit (.int .i64 (S.getD (i+k) 0))]:=ints_getD .i64 S (i+k) (by omega)
   have ek:((i:Int)+(k:Int)).toNat=i+k:=by omega
   have cat:=c217 a i (by omega)
   have cbt:=c217 b k (by omega)
   have hq:∀ n:Int,n=S.getD (i+k) 0+bt a i*bt b k+c→w8 (S.set (i+k) (n % 256))+n / 256*256 ^ (i+(k+1))=lowN a i*(nv b:Int)+bt a i*lowN b (k+1)*256 ^ i:=by
    intro n hn
    rw[hS2,B1,show i+(k+1)=(i+k)+1 by omega,p256_succ]
    have h1:n % 256=n - 256*(n / 256):=by omega
    have h2:(256:Int) ^ (i+k)=256 ^ i*256 ^ k:=Int.pow_add _ _ _
    rw[h1]
    generalize n / 256=r at *
    grind
   have dS2:=fun n:Int=>dig8_set dS (i:=i+k) (d:=n % 256) (by omega)
   have hSl2:∀ d:Int,(S.set (i+k) d).length=L:=fun d=>by rw[List.length_set];exact hSl
   clear hv A1 A2 B0 B1 hS2
   generalize lowN a i*(nv b:Int)=V1 at *
   generalize bt a i=P at *
   generalize bt b k=Q at *
   generalize S.getD (i+k) 0=s0 at *
   have hPQ:0≤P*Q∧P*Q≤65025:=by
    refine ⟨Int.mul_nonneg g1.1 g2.1,?_⟩
    have h1:=Int.mul_le_mul_of_nonneg_right (show P≤255 by omega) g2.1
    omega
   have hP:IntKind.i64.wrap (P*Q)=P*Q:=wrap64 (by omega) (by omega)
   have hq:=hq (s0+P*Q+c) rfl
   have dS2:=dS2 (s0+P*Q+c)
   have hc2:0≤(s0+P*Q+c) / 256∧(s0+P*Q+c) / 256≤255:=by omega
   have hn:True:=trivial
   generalize hPQe:P*Q=PQ at *
   have hk1:k<b.size∨(¬ k<b.size∧0<c):=by omega
   clear hx
   have gw:Hid (w8 (S.set (i+k) ((s0+PQ+c) % 256))+(s0+PQ+c) / 256*256 ^ (i+(k+1))=V1+P*lowN b (k+1)*256 ^ i):=Hid.mk hq
   clear hq
   rcases hk1 with hk1|⟨hk1,hk2⟩
   ·have k1:True:=trivial
    have k2:True:=trivial
    repeat' (first|refine zg ?_|(refine AW.cond rfl ?_ ?_<;>intro hc<;>first|simp only[NM]at hc|omega|skip)|refine zr ?_|(first|refine callV.flat _ yfn_217 cat rfl rfl ?_|refine callV.flat _ yfn_217 cbt rfl rfl ?_)|refine ⟨by omega,?_⟩|(refine zb ?_ ?_<;>intro hg<;>(try rw[hg])<;>try simp only[NM]at hg)|omega|simp -dsimp (disch:=try exact zo) only[go_sem,k1,k2,ek,he,hP,hn,ints_length,hSl,ZT]|contradiction|rfl)
    all_goals exact AW.stop ⟨⟨(k+1,S.set (i+k) ((s0+PQ+c) % 256),(s0+PQ+c) / 256),by dsimp only;omega,dS2,hSl2 _,hc2,gw.out⟩,(Weak.t4 (by refine ⟨?_,?_,?_,?_⟩<;>simp -dsimp (disch:=try exact zo) only[go_sem,hPQe,ints_in,ZC])),by dsimp only;omega⟩
   ·have k1:True:=trivial
    have k2:True:=trivial
    repeat' (first|refine zg ?_|(refine AW.cond rfl ?_ ?_<;>intro hc<;>first|simp only[NM]at hc|omega|skip)|refine zr ?_|(first|refine callV.flat _ yfn_217 cat rfl rfl ?_|refine callV.flat _ yfn_217 cbt rfl rfl ?_)|refine ⟨by omega,?_⟩|(refine zb ?_ ?_<;>intro hg<;>(try rw[hg])<;>try simp only[NM]at hg)|omega|simp -dsimp (disch:=try exact zo) only[go_sem,k1,k2,ek,he,hP,hn,ints_length,hSl,ZT]|contradiction|rfl)
    all_goals exact AW.stop ⟨⟨(k+1,S.set (i+k) ((s0+PQ+c) % 256),(s0+PQ+c) / 256),by dsimp only;omega,dS2,hSl2 _,hc2,gw.out⟩,(Weak.t4 (by refine ⟨?_,?_,?_,?_⟩<;>simp -dsimp (disch:=try exact zo) only[go_sem,hPQe,ints_in,ZC])),by dsimp only;omega⟩
  ·have hc0:c=0:=by omega
   subst hc0
   have h1:lowN b k=(nv b:Int):=lowN_all (by omega)
   have hv2:Hid (w8 S=lowN a (i+1)*(nv b:Int)):=Hid.mk (by rw[h1]at hv;rw[A1];grind)
   clear hv A1 A2 B0 h1
   have k1:True:=trivial
   have k2:True:=trivial
   repeat' (first|refine zg ?_|(refine AW.cond rfl ?_ ?_<;>intro hc<;>first|simp only[NM]at hc|omega|skip)|refine zr ?_|refine ⟨by omega,?_⟩|(refine zb ?_ ?_<;>intro hg<;>(try rw[hg])<;>try simp only[NM]at hg)|omega|simp -dsimp (disch:=try exact zo) only[go_sem,k1,k2]|contradiction|rfl)
   all_goals exact AW.stop ⟨⟨(i+1,S),by dsimp only;omega,dS,hSl,hv2.out⟩,(Weak.t4 (by refine ⟨?_,?_,?_,?_⟩<;>simp -dsimp (disch:=try exact zo) only[go_sem,ints_in,ZC])),by dsimp only;omega⟩
 ·have hil:i=a.size:=by omega
  subst hil
  have hSl:S.length=L:=hS
  have hfin:nb (nv ⟨(ofI S).toArray⟩)=nb (nv a*nv b):=by
   congr 1
   have h1:=str_nv S dS
   rw[lowN_all (Nat.le_refl _)]at hv
   have:((nv a*nv b:Nat):Int)=(nv a:Int)*(nv b:Int):=Int.natCast_mul _ _
   omega
  clear hv
  repeat' (first|refine zg ?_|(refine AW.cond rfl ?_ ?_<;>intro hc<;>first|simp only[NM]at hc|omega|skip)|refine zr ?_|refine ⟨by omega,?_⟩|(refine zb ?_ ?_<;>intro hg<;>(try rw[hg])<;>try simp only[NM]at hg)|omega|simp -dsimp (disch:=try exact zo) only[go_sem,ints_length,hSl]|contradiction|rfl)
  refine AW.loop (fun z:{i:Nat // i≤L}=>⟨[(64,.lit (.int .i64 z.1)),(63,.lit (.int .i64 L)),(62,.ref 15 0 L L),(10,.ref 44 0 z.1 z.1)],[(15,.vec 1 (ints .i64 S)),(44,.vec 1 (ints .u8 (S.take z.1)))],70⟩) (fun z=>L - z.1) ⟨0,Nat.zero_le _⟩ (Weak.t4 (by refine ⟨?_,?_,?_,?_⟩<;>simp -dsimp (disch:=try exact zo) only[go_sem,ints_in,List.take_zero,hi0,ZC])) ?_
  rintro ⟨j,hj⟩
  dsimp only
  have hXl:(S.take j).length=j:=by rw[List.length_take];omega
  by_cases hjt:j<L
  ·have es:(ints .i64 S).getD j []=[.lit (.int .i64 (S.getD j 0))]:=ints_getD .i64 S j (by omega)
   have hd:=dig8_getD dS j
   have wd:IntKind.u8.wrap (S.getD j 0)=S.getD j 0:=wrapu8 hd.1 hd.2
   have hX1:S.take (j+1)=S.take j++[S.getD j 0]:=by
    rw[List.take_succ_eq_append_getElem (by omega),List.getD_eq_getElem?_getD,List.getElem?_eq_getElem (by omega)];rfl
   generalize S.getD j 0=s0 at *
   repeat' (first|refine zg ?_|(refine AW.cond rfl ?_ ?_<;>intro hc<;>first|simp only[NM]at hc|omega|skip)|refine zr ?_|refine ⟨by omega,?_⟩|(refine zb ?_ ?_<;>intro hg<;>(try rw[hg])<;>try simp only[NM]at hg)|omega|simp -dsimp (disch:=try exact zo) only[go_sem,es,wd,hXl,ints_length,ints_app,hSl,ZT]|contradiction|rfl)
   all_goals exact AW.stop ⟨⟨j+1,by omega⟩,(Weak.t4 (by refine ⟨?_,?_,?_,?_⟩<;>first|(simp -dsimp (disch:=try exact zo) only[go_sem,ZC,ints_app,hX1];done)|(simp -dsimp (disch:=try exact zo) only[go_sem,ints_in,ZC];done))),by dsimp only;omega⟩
  ·have hjl:j=L:=by omega
   subst hjl
   have htk:S.take j=S:=List.take_of_length_le (by omega)
   rw[htk]at hXl ⊢
   repeat' (first|refine zg ?_|(refine AW.cond rfl ?_ ?_<;>intro hc<;>first|simp only[NM]at hc|omega|skip)|refine zr ?_|refine ⟨by omega,?_⟩|(refine zb ?_ ?_<;>intro hg<;>(try rw[hg])<;>try simp only[NM]at hg)|omega|simp -dsimp (disch:=try exact zo) only[go_sem,hXl,ints_length]|contradiction|rfl)
   all_goals
    refine ⟨ofI S,by first|exact ints_enc8 _ dS|(rw[List.take_of_length_le (by first|omega|(rw[ints_length];omega))];exact ints_enc8 _ dS),?_⟩
    repeat' (first|refine zg ?_|(refine AW.cond rfl ?_ ?_<;>intro hc<;>first|simp only[NM]at hc|omega|skip)|refine zr ?_|(refine callV.flat _ yfn_153 (c153 _ (by rw[str_size];omega)) rfl rfl ?_)|refine ⟨by omega,?_⟩|(refine zb ?_ ?_<;>intro hg<;>(try rw[hg])<;>try simp only[NM]at hg)|omega|simp -dsimp (disch:=try exact zo) only[go_sem,hfin]|contradiction|rfl)
end Go.Proofs.Vx
