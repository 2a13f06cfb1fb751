import Derived.Test.YtjlfgmhmalbiiaaGreatDoorProg
import Derived.Test.YtjlfgmhmalbiiaaGreatDoorU10
import Derived.Test.YtjlfgmhmalbiiaaGreatDoorU17
import Derived.Test.YtjlfgmhmalbiiaaGreatDoorU29
set_option linter.all false
namespace Go.Proofs.Vx
open Go Go.Sx Go.Proofs
attribute [local irreducible] fnT CallOK CallFr AW effV callV runP runO oneP oneO gcaseP hid
theorem gT4 (n1 n2 n3 n4:Bool) (m1 m2 m3 m4:ByteArray):gT [(n1,m1),(n2,m2),(n3,m3),(n4,m4)] 4=g4 (iv n1 m1) (iv n2 m2) (iv n3 m3) (iv n4 m4):=by
 show Nat.gcd (Nat.gcd (Nat.gcd (Nat.gcd 0 (nv m1)) (nv m2)) (nv m3)) (nv m4)=_
 rw[Nat.gcd_zero_left]
 unfold g4
 simp only[natAbs_iv]
theorem c88x (n1 n2 n3 n4 : Bool) (m1 m2 m3 m4 : ByteArray) (h1 : m1.size ≤ 268435456) (h2 : m2.size ≤ 268435456) (h3 : m3.size ≤ 268435456) (h4 : m4.size ≤ 268435456) :
  CallOK Tryz.prog 88 [.sl [eI n1 m1,eI n2 m2,eI n3 m3,eI n4 m4]] [] (.agg [.lit (.bool false),.lit (.string (nb (g4 (iv n1 m1) (iv n2 m2) (iv n3 m3) (iv n4 m4))))]) []:=by
 have h:=c88 [(n1,m1),(n2,m2),(n3,m3),(n4,m4)] (by simp) (by
  intro r hr
  simp only[List.mem_cons,List.not_mem_nil,or_false]at hr
  rcases hr with rfl|rfl|rfl|rfl<;>assumption)
 have e:([(n1,m1),(n2,m2),(n3,m3),(n4,m4)]:List RawI).length=4:=rfl
 rw[e,gT4]at h
 have e2:∀ G:Nat,eZ (G:Int)=[.lit (.bool false),.lit (.string (nb G))]:=fun G=>by unfold eZ;rw[Zn_false (Int.natCast_nonneg _),Zm_nat]
 rw[e2]at h
 exact h
set_option maxHeartbeats 8000000 in
theorem c109 (n:Bool) (m:ByteArray) (g:Nat) (hg:0<g) (hd:g∣nv m) (hm:m.size≤268435456) (hgs:(nb g).size≤268435456):CallOK Tryz.prog 109 [.agg [.lit (.bool n),.lit (.string m)],.agg [.lit (.bool false),.lit (.string (nb g))]] [] (.agg (eZ (iv n m / (g:Int)))) []:=by
 refine CallOK.flat Tryz.func109 rfl 16 rfl rfl rfl [.cell 4 24] (congrArg Array.toList Tryz.results109) ?_
 simp only[startT,Nat.reduceAdd]
 have hml:maxLen=9223372036854775807:=rfl
 repeat' (first|refine zg ?_|(refine AW.cond rfl ?_ ?_<;>intro hc<;>first|simp only[NM]at hc|omega|skip)|refine zr ?_|(refine callV.flat _ yfn_90 (c90 n m g hg hd hm hgs) rfl rfl ?_)|refine ⟨by omega,?_⟩|(refine zb ?_ ?_<;>intro hg<;>(try rw[hg])<;>try simp only[NM]at hg)|omega|simp -dsimp (disch:=try exact zo) only[go_sem]|contradiction|rfl)
set_option maxHeartbeats 8000000 in
theorem c44b (n1 n2 n3 n4:Bool) (m1 m2 m3 m4:ByteArray) (h1:m1.size≤268435456) (h2:m2.size≤268435456) (h3:m3.size≤268435456) (h4:m4.size≤268435456) (hz:iv n1 m1=0∧iv n2 m2=0∧iv n3 m3=0):CallOK Tryz.prog 44 [.agg [.lit (.bool n1),.lit (.string m1),.lit (.bool n2),.lit (.string m2),.lit (.bool n3),.lit (.string m3),.lit (.bool n4),.lit (.string m4)]] [] (.tup [.agg [.lit (.bool false),.lit (.string ⟨#[]⟩),.lit (.bool false),.lit (.string ⟨#[]⟩),.lit (.bool false),.lit (.string ⟨#[]⟩),.lit (.bool false),.lit (.string ⟨#[]⟩)],.lit (.bool false)]) []:=by
 refine CallOK.flat Tryz.func44 rfl 49 rfl rfl rfl [.cell 2 26,.tmp 3] (congrArg Array.toList Tryz.results44) ?_
 simp only[startT,Nat.reduceAdd]
 have hml:maxLen=9223372036854775807:=rfl
 have s1:=c86 n1 m1 (by omega)
 have s2:=c86 n2 m2 (by omega)
 have s3:=c86 n3 m3 (by omega)
 obtain ⟨z1,z2,z3⟩:=hz
 rw[z1]at s1
 rw[z2]at s2
 rw[z3]at s3
 have k1:sg 0=0:=rfl
 have k2:True:=trivial
 have k3:True:=trivial
 repeat' (first|refine zg ?_|(refine AW.cond rfl ?_ ?_<;>intro hc<;>first|simp only[NM]at hc|omega|skip)|refine zr ?_|(first|refine callV.flat _ yfn_86 s1 rfl rfl ?_|refine callV.flat _ yfn_86 s2 rfl rfl ?_|refine callV.flat _ yfn_86 s3 rfl rfl ?_)|refine ⟨by omega,?_⟩|(refine zb ?_ ?_<;>intro hg<;>(try rw[hg])<;>try simp only[NM]at hg)|omega|simp -dsimp (disch:=try exact zo) only[go_sem,k1]|contradiction|rfl)
set_option maxHeartbeats 16000000 in
theorem c44a (n1 n2 n3 n4:Bool) (m1 m2 m3 m4:ByteArray) (h1:m1.size≤268435456) (h2:m2.size≤268435456) (h3:m3.size≤268435456) (h4:m4.size≤268435456) (hz:¬ (iv n1 m1=0∧iv n2 m2=0∧iv n3 m3=0)):CallOK Tryz.prog 44 [.agg [.lit (.bool n1),.lit (.string m1),.lit (.bool n2),.lit (.string m2),.lit (.bool n3),.lit (.string m3),.lit (.bool n4),.lit (.string m4)]] [] (.tup [.agg (eH (pnrm (iv n1 m1) (iv n2 m2) (iv n3 m3) (iv n4 m4))),.lit (.bool true)]) []:=by
 refine CallOK.flat Tryz.func44 rfl 49 rfl rfl rfl [.cell 2 26,.tmp 3] (congrArg Array.toList Tryz.results44) ?_
 simp only[startT,Nat.reduceAdd]
 have hml:maxLen=9223372036854775807:=rfl
 have s1:=c86 n1 m1 (by omega)
 have s2:=c86 n2 m2 (by omega)
 have s3:=c86 n3 m3 (by omega)
 have cg:=c88x n1 n2 n3 n4 m1 m2 m3 m4 h1 h2 h3 h4
 obtain ⟨d1,d2,d3,d4⟩:=g4_dvd (iv n1 m1) (iv n2 m2) (iv n3 m3) (iv n4 m4)
 have hG:0<g4 (iv n1 m1) (iv n2 m2) (iv n3 m3) (iv n4 m4):=by
  apply Nat.pos_of_ne_zero
  intro h0
  rw[h0]at d1 d2 d3
  exact hz ⟨by simpa using d1,by simpa using d2,by simpa using d3⟩
 have hGs:(nb (g4 (iv n1 m1) (iv n2 m2) (iv n3 m3) (iv n4 m4))).size≤268435456:=by
  unfold g4
  simp only[natAbs_iv]
  exact gcd_size (gcd_size (gcd_size (Nat.le_trans (can_size _) h1) (Nat.le_trans (can_size _) h2)) (Nat.le_trans (can_size _) h3)) (Nat.le_trans (can_size _) h4)
 have e:∀ (n:Bool) (m:ByteArray),(g4 (iv n1 m1) (iv n2 m2) (iv n3 m3) (iv n4 m4):Int)∣iv n m→g4 (iv n1 m1) (iv n2 m2) (iv n3 m3) (iv n4 m4)∣nv m:=fun n m h=>by
  rw[← natAbs_iv n m];exact Int.ofNat_dvd_left.1 h
 unfold pnrm
 have p1:=c109 n1 m1 _ hG (e n1 m1 d1) h1 hGs
 have p2:=c109 n2 m2 _ hG (e n2 m2 d2) h2 hGs
 have p3:=c109 n3 m3 _ hG (e n3 m3 d3) h3 hGs
 have p4:=c109 n4 m4 _ hG (e n4 m4 d4) h4 hGs
 clear e d1 d2 d3 d4 hG hGs
 generalize g4 (iv n1 m1) (iv n2 m2) (iv n3 m3) (iv n4 m4)=G at *
 by_cases q1:sg (iv n1 m1)=0
 ·by_cases q2:sg (iv n2 m2)=0
  ·have q3:sg (iv n3 m3)≠0:=fun q3=>hz ⟨sg_zero.1 q1,sg_zero.1 q2,sg_zero.1 q3⟩
   have k1:=eq_true q1
   have k2:=eq_true q2
   have k3:=eq_false q3
   clear hz
   repeat' (first|refine zg ?_|(refine AW.cond rfl ?_ ?_<;>intro hc<;>first|simp only[NM]at hc|omega|skip)|refine zr ?_|(first|refine callV.flat _ yfn_86 s1 rfl rfl ?_|refine callV.flat _ yfn_86 s2 rfl rfl ?_|refine callV.flat _ yfn_86 s3 rfl rfl ?_)|(refine callV.lend1 _ yfn_88 cg rfl rfl (by simp -dsimp (disch:=try exact zo) only[go_sem]) (.agg _ (by intro c hc;simp only[List.mem_cons,List.not_mem_nil,or_false]at hc;rcases hc with rfl|rfl<;>exact .lit _)) ?_)|(first|refine callV.flat _ yfn_109 p1 rfl rfl ?_|refine callV.flat _ yfn_109 p2 rfl rfl ?_|refine callV.flat _ yfn_109 p3 rfl rfl ?_|refine callV.flat _ yfn_109 p4 rfl rfl ?_)|refine ⟨by omega,?_⟩|(refine zb ?_ ?_<;>intro hg<;>(try rw[hg])<;>try simp only[NM]at hg)|omega|simp -dsimp (disch:=try exact zo) only[go_sem,k1,k2,k3]|contradiction|rfl)
  ·have k1:=eq_true q1
   have k2:=eq_false q2
   have k3:True:=trivial
   clear hz
   repeat' (first|refine zg ?_|(refine AW.cond rfl ?_ ?_<;>intro hc<;>first|simp only[NM]at hc|omega|skip)|refine zr ?_|(first|refine callV.flat _ yfn_86 s1 rfl rfl ?_|refine callV.flat _ yfn_86 s2 rfl rfl ?_|refine callV.flat _ yfn_86 s3 rfl rfl ?_)|(refine callV.lend1 _ yfn_88 cg rfl rfl (by simp -dsimp (disch:=try exact zo) only[go_sem]) (.agg _ (by intro c hc;simp only[List.mem_cons,List.not_mem_nil,or_false]at hc;rcases hc with rfl|rfl<;>exact .lit _)) ?_)|(first|refine callV.flat _ yfn_109 p1 rfl rfl ?_|refine callV.flat _ yfn_109 p2 rfl rfl ?_|refine callV.flat _ yfn_109 p3 rfl rfl ?_|refine callV.flat _ yfn_109 p4 rfl rfl ?_)|refine ⟨by omega,?_⟩|(refine zb ?_ ?_<;>intro hg<;>(try rw[hg])<;>try simp only[NM]at hg)|omega|simp -dsimp (disch:=try exact zo) only[go_sem,k1,k2,k3]|contradiction|rfl)
 ·have k1:=eq_false q1
  have k2:True:=trivial
  have k3:True:=trivial
  clear hz
  repeat' (first|refine zg ?_|(refine AW.cond rfl ?_ ?_<;>intro hc<;>first|simp only[NM]at hc|omega|skip)|refine zr ?_|(first|refine callV.flat _ yfn_86 s1 rfl rfl ?_|refine callV.flat _ yfn_86 s2 rfl rfl ?_|refine callV.flat _ yfn_86 s3 rfl rfl ?_)|(refine callV.lend1 _ yfn_88 cg rfl rfl (by simp -dsimp (disch:=try exact zo) only[go_sem]) (.agg _ (by intro c hc;simp only[List.mem_cons,List.not_mem_nil,or_false]at hc;rcases hc with rfl|rfl<;>exact .lit _)) ?_)|(first|refine callV.flat _ yfn_109 p1 rfl rfl ?_|refine callV.flat _ yfn_109 p2 rfl rfl ?_|refine callV.flat _ yfn_109 p3 rfl rfl ?_|refine callV.flat _ yfn_109 p4 rfl rfl ?_)|refine ⟨by omega,?_⟩|(refine zb ?_ ?_<;>intro hg<;>(try rw[hg])<;>try simp only[NM]at hg)|omega|simp -dsimp (disch:=try exact zo) only[go_sem,k1,k2,k3]|contradiction|rfl)
end Go.Proofs.Vx
namespace Go.Proofs.Vx
open Go Go.Sx Go.Proofs
attribute [local irreducible] fnT CallOK CallFr AW effV callV runP runO oneP oneO gcaseP hid
theorem yfn_18:fnT Tryz.prog 18=true:=by kernel_rfl
theorem yfn_26:fnT Tryz.prog 26=true:=by kernel_rfl
theorem yfn_66:fnT Tryz.prog 66=true:=by kernel_rfl
structure RP where
 n1:Bool
 m1:ByteArray
 n2:Bool
 m2:ByteArray
 n3:Bool
 m3:ByteArray
 n4:Bool
 m4:ByteArray
abbrev eRP (r:RP):List AV:=[.lit (.bool r.n1),.lit (.string r.m1),.lit (.bool r.n2),.lit (.string r.m2),.lit (.bool r.n3),.lit (.string r.m3),.lit (.bool r.n4),.lit (.string r.m4)]
def zeroR (r:RP):Prop:=iv r.n1 r.m1=0∧iv r.n2 r.m2=0∧iv r.n3 r.m3=0
instance (r:RP):Decidable (zeroR r):=by unfold zeroR;infer_instance
def wideR (r:RP):Prop:=6<r.m1.size∨6<r.m2.size∨6<r.m3.size∨6<r.m4.size∨zeroR r
instance (r:RP):Decidable (wideR r):=by unfold wideR;infer_instance
def goodR (r:RP):Bool:=decide (r.m1.size≤2)&&decide (r.m2.size≤2)&&decide (r.m3.size≤2)&&decide (r.m4.size≤3)&&decide (¬ zeroR r)
def nrmR (r:RP):Pl:=pnrm (iv r.n1 r.m1) (iv r.n2 r.m2) (iv r.n3 r.m3) (iv r.n4 r.m4)
theorem c44ax (r:RP) (h1:r.m1.size≤268435456) (h2:r.m2.size≤268435456) (h3:r.m3.size≤268435456) (h4:r.m4.size≤268435456) (hz:¬ zeroR r):CallOK Tryz.prog 44 [.agg (eRP r)] [] (.tup [.agg (eH (nrmR r)),.lit (.bool true)]) []:=c44a _ _ _ _ _ _ _ _ h1 h2 h3 h4 hz
theorem c44bx (r:RP) (h1:r.m1.size≤268435456) (h2:r.m2.size≤268435456) (h3:r.m3.size≤268435456) (h4:r.m4.size≤268435456) (hz:zeroR r):CallOK Tryz.prog 44 [.agg (eRP r)] [] (.tup [.agg [.lit (.bool false),.lit (.string ⟨#[]⟩),.lit (.bool false),.lit (.string ⟨#[]⟩),.lit (.bool false),.lit (.string ⟨#[]⟩),.lit (.bool false),.lit (.string ⟨#[]⟩)],.lit (.bool false)]) []:=c44b _ _ _ _ _ _ _ _ h1 h2 h3 h4 hz
set_option maxHeartbeats 8000000 in
theorem c66 (r:RP):CallOK Tryz.prog 66 [.agg (eRP r)] [] (.lit (.int .i64 (if wideR r then 1 else 0))) []:=by
 refine CallOK.flat Tryz.func66 rfl 38 rfl rfl rfl [.tmp 2] (congrArg Array.toList Tryz.results66) ?_
 simp only[startT,Nat.reduceAdd]
 unfold wideR
 by_cases q1:6<r.m1.size
 ·have hr:(if 6<r.m1.size∨6<r.m2.size∨6<r.m3.size∨6<r.m4.size∨zeroR r then (1:Int)else 0)=1:=by simp[q1]
  rw[hr]
  have k1:(6<(r.m1.size:Int))=True:=eq_true (by omega)
  have k2:True:=trivial
  have k3:True:=trivial
  have k4:True:=trivial
  repeat' (first|refine zg ?_|(refine AW.cond rfl ?_ ?_<;>intro hc<;>first|simp only[NM]at hc|omega|skip)|refine zr ?_|refine ⟨by omega,?_⟩|(refine zb ?_ ?_<;>intro hg<;>(try rw[hg])<;>try simp only[NM]at hg)|omega|simp -dsimp (disch:=try exact zo) only[go_sem,k1,k2,k3,k4]|contradiction|rfl)
 ·skip
  by_cases q2:6<r.m2.size
  ·have hr:(if 6<r.m1.size∨6<r.m2.size∨6<r.m3.size∨6<r.m4.size∨zeroR r then (1:Int)else 0)=1:=by simp[q2]
   rw[hr]
   have k1:(6<(r.m1.size:Int))=False:=eq_false (by omega)
   have k2:(6<(r.m2.size:Int))=True:=eq_true (by omega)
   have k3:True:=trivial
   have k4:True:=trivial
   repeat' (first|refine zg ?_|(refine AW.cond rfl ?_ ?_<;>intro hc<;>first|simp only[NM]at hc|omega|skip)|refine zr ?_|refine ⟨by omega,?_⟩|(refine zb ?_ ?_<;>intro hg<;>(try rw[hg])<;>try simp only[NM]at hg)|omega|simp -dsimp (disch:=try exact zo) only[go_sem,k1,k2,k3,k4]|contradiction|rfl)
  ·skip
   by_cases q3:6<r.m3.size
   ·have hr:(if 6<r.m1.size∨6<r.m2.size∨6<r.m3.size∨6<r.m4.size∨zeroR r then (1:Int)else 0)=1:=by simp[q3]
    rw[hr]
    have k1:(6<(r.m1.size:Int))=False:=eq_false (by omega)
    have k2:(6<(r.m2.size:Int))=False:=eq_false (by omega)
    have k3:(6<(r.m3.size:Int))=True:=eq_true (by omega)
    have k4:True:=trivial
    repeat' (first|refine zg ?_|(refine AW.cond rfl ?_ ?_<;>intro hc<;>first|simp only[NM]at hc|omega|skip)|refine zr ?_|refine ⟨by omega,?_⟩|(refine zb ?_ ?_<;>intro hg<;>(try rw[hg])<;>try simp only[NM]at hg)|omega|simp -dsimp (disch:=try exact zo) only[go_sem,k1,k2,k3,k4]|contradiction|rfl)
   ·skip
    by_cases q4:6<r.m4.size
    ·have hr:(if 6<r.m1.size∨6<r.m2.size∨6<r.m3.size∨6<r.m4.size∨zeroR r then (1:Int)else 0)=1:=by simp[q4]
     rw[hr]
     have k1:(6<(r.m1.size:Int))=False:=eq_false (by omega)
     have k2:(6<(r.m2.size:Int))=False:=eq_false (by omega)
     have k3:(6<(r.m3.size:Int))=False:=eq_false (by omega)
     have k4:(6<(r.m4.size:Int))=True:=eq_true (by omega)
     repeat' (first|refine zg ?_|(refine AW.cond rfl ?_ ?_<;>intro hc<;>first|simp only[NM]at hc|omega|skip)|refine zr ?_|refine ⟨by omega,?_⟩|(refine zb ?_ ?_<;>intro hg<;>(try rw[hg])<;>try simp only[NM]at hg)|omega|simp -dsimp (disch:=try exact zo) only[go_sem,k1,k2,k3,k4]|contradiction|rfl)
    ·skip
     have k1:(6<(r.m1.size:Int))=False:=eq_false (by omega)
     have k2:(6<(r.m2.size:Int))=False:=eq_false (by omega)
     have k3:(6<(r.m3.size:Int))=False:=eq_false (by omega)
     have k4:(6<(r.m4.size:Int))=False:=eq_false (by omega)
     by_cases q5:zeroR r
     ·have hr:(if 6<r.m1.size∨6<r.m2.size∨6<r.m3.size∨6<r.m4.size∨zeroR r then (1:Int)else 0)=1:=by simp[q1,q2,q3,q4,q5]
      rw[hr]
      have cn:=c44bx r (by omega) (by omega) (by omega) (by omega) q5
      repeat' (first|refine zg ?_|(refine AW.cond rfl ?_ ?_<;>intro hc<;>first|simp only[NM]at hc|omega|skip)|refine zr ?_|(refine callV.flat _ yfn_44 cn rfl rfl ?_)|refine ⟨by omega,?_⟩|(refine zb ?_ ?_<;>intro hg<;>(try rw[hg])<;>try simp only[NM]at hg)|omega|simp -dsimp (disch:=try exact zo) only[go_sem,k1,k2,k3,k4]|contradiction|rfl)
     ·have hr:(if 6<r.m1.size∨6<r.m2.size∨6<r.m3.size∨6<r.m4.size∨zeroR r then (1:Int)else 0)=0:=by simp[q1,q2,q3,q4,q5]
      rw[hr]
      have cn:=c44ax r (by omega) (by omega) (by omega) (by omega) q5
      repeat' (first|refine zg ?_|(refine AW.cond rfl ?_ ?_<;>intro hc<;>first|simp only[NM]at hc|omega|skip)|refine zr ?_|(refine callV.flat _ yfn_44 cn rfl rfl ?_)|refine ⟨by omega,?_⟩|(refine zb ?_ ?_<;>intro hg<;>(try rw[hg])<;>try simp only[NM]at hg)|omega|simp -dsimp (disch:=try exact zo) only[go_sem,k1,k2,k3,k4]|contradiction|rfl)
end Go.Proofs.Vx
namespace Go.Proofs.Vx
open Go Go.Sx Go.Proofs
attribute [local irreducible] fnT CallOK CallFr AW effV callV runP runO oneP oneO gcaseP hid
theorem yqq_Nx45:arT Tryz.prog 22=none∧byT Tryz.prog 26=some 96∧slT Tryz.prog 22=some (26,8)∧strT Tryz.prog 22=false:=by and_intros<;>kernel_rfl
attribute [go_sem] yqq_Nx45
abbrev eRPs (l:List RP):List (List AV):=l.map eRP
theorem eRPs_in {K:Nat→Prop} (l:List RP):(∀ e∈eRPs l,∀ c∈e,In K c)=True:=eq_true fun e he c hc=>by
 obtain ⟨r,_,rfl⟩:=List.mem_map.1 he
 simp only[eRP,List.mem_cons,List.not_mem_nil,or_false]at hc
 rcases hc with rfl|rfl|rfl|rfl|rfl|rfl|rfl|rfl<;>exact .lit _
theorem eRPs_getD (l:List RP) (i:Nat) (h:i<l.length):(eRPs l).getD i []=eRP l[i]:=by
 rw[List.getD_eq_getElem?_getD,List.getElem?_eq_getElem (by simpa using h)];simp
def nrmL (l:List RP):List Pl:=l.map nrmR
theorem eHs_in {K:Nat→Prop} (l:List Pl):(∀ e∈l.map eH,∀ c∈e,In K c)=True:=eq_true fun e he c hc=>by
 obtain ⟨r,_,rfl⟩:=List.mem_map.1 he
 simp only[eH,e4,List.mem_cons,List.not_mem_nil,or_false]at hc
 rcases hc with rfl|rfl|rfl|rfl|rfl|rfl|rfl|rfl<;>exact .lit _
theorem flatPl (l:List Pl):FlatS (.tup [.sl (l.map eH),.lit (.bool true)]):=by
 intro c hc
 simp only[List.mem_cons,List.not_mem_nil,or_false]at hc
 rcases hc with rfl|rfl
 ·refine .inr ⟨_,rfl,fun e he c hc=>?_⟩
  obtain ⟨r,_,rfl⟩:=List.mem_map.1 he
  simp only[eH,e4,List.mem_cons,List.not_mem_nil,or_false]at hc
  rcases hc with rfl|rfl|rfl|rfl|rfl|rfl|rfl|rfl<;>exact .lit _
 ·exact .inl (.lit _)
theorem good_iff {r:RP}:goodR r=true↔r.m1.size≤2∧r.m2.size≤2∧r.m3.size≤2∧r.m4.size≤3∧¬ zeroR r:=by
 unfold goodR
 simp only[Bool.and_eq_true,decide_eq_true_eq,and_assoc]
theorem not_wide {r:RP} (h:goodR r=true):¬ wideR r:=by
 obtain ⟨h1,h2,h3,h4,h5⟩:=good_iff.1 h
 unfold wideR
 rintro (h|h|h|h|h)
 ·omega
 ·omega
 ·omega
 ·omega
 ·exact h5 h
set_option maxHeartbeats 3200000 in
theorem c18a (rs:List RP) (most:Nat) (h:most<rs.length):CallOK Tryz.prog 18 [.sl (eRPs rs),.lit (.int .i64 most)] [] (.tup [.lit (.slice none 0 0),.lit (.bool false)]) []:=by
 refine CallOK.flat Tryz.func18 rfl 63 rfl rfl rfl [.tmp 4,.tmp 5] (congrArg Array.toList Tryz.results18) ?_
 simp only[startT,Nat.reduceAdd]
 have hl:(eRPs rs).length=rs.length:=List.length_map _
 repeat' (first|refine zg ?_|(refine AW.cond rfl ?_ ?_<;>intro hc<;>first|simp only[NM]at hc|omega|skip)|refine zr ?_|refine ⟨by omega,?_⟩|(refine zb ?_ ?_<;>intro hg<;>(try rw[hg])<;>try simp only[NM]at hg)|omega|simp -dsimp (disch:=try exact zo) only[go_sem,hl,zl]|contradiction|rfl)
set_option maxRecDepth 20000 in
set_option maxHeartbeats 16000000 in
theorem c18c (rs:List RP) (most:Nat) (h:rs.length≤most) (hm:most≤64) (hnall:¬ ∀ r∈rs,goodR r=true):CallOK Tryz.prog 18 [.sl (eRPs rs),.lit (.int .i64 most)] [] (.tup [.lit (.slice none 0 0),.lit (.bool false)]) []:=by
 refine CallOK.flat Tryz.func18 rfl 63 rfl rfl rfl [.tmp 4,.tmp 5] (congrArg Array.toList Tryz.results18) ?_
 simp only[startT,Nat.reduceAdd]
 have hz0:(nrmL []).map eH=[]:=rfl
 have hml:maxLen=9223372036854775807:=rfl
 have hl:(eRPs rs).length=rs.length:=List.length_map _
 repeat' (first|refine zg ?_|(refine AW.cond rfl ?_ ?_<;>intro hc<;>first|simp only[NM]at hc|omega|skip)|refine zr ?_|refine ⟨by omega,?_⟩|(refine zb ?_ ?_<;>intro hg<;>(try rw[hg])<;>try simp only[NM]at hg)|omega|simp -dsimp (disch:=try exact zo) only[go_sem,hl,zl]|contradiction|rfl)
 refine AW.loop (fun z:{i:Nat // i≤rs.length∧∀ q,q<i→∀ h:q<rs.length,goodR rs[q]=true}=>⟨[(17,.lit (.int .i64 z.1)),(16,.lit (.int .i64 rs.length)),(15,.sl (eRPs rs)),(6,.ref 18 0 z.1 z.1)],[(18,.vec 8 ((nrmL (rs.take z.1)).map eH))],60⟩) (fun z=>rs.length - z.1) ⟨0,Nat.zero_le _,fun q hq=>by omega⟩ (Weak.trans (Weak.nil 6 8 (by decide) rfl) (Weak.t4 (by refine ⟨?_,?_,?_,?_⟩<;>simp -dsimp (disch:=try exact zo) only[go_sem,List.take_zero,hz0,eHs_in,eRPs_in,ZC]))) ?_
 rintro ⟨i,hi,hgood⟩
 dsimp only
 have hXl:((nrmL (rs.take i)).map eH).length=i:=by rw[List.length_map];unfold nrmL;rw[List.length_map,List.length_take];omega
 by_cases hlt:i<rs.length
 ·have es1:=eRPs_getD rs i hlt
  by_cases hg:goodR rs[i]=true
  ·have hg2:∀ q,q<i+1→∀ h:q<rs.length,goodR rs[q]=true:=fun q hq h=>by
    by_cases e:q=i
    ·subst e;exact hg
    ·exact hgood q (by omega) h
   have hX1:(nrmL (rs.take (i+1))).map eH=(nrmL (rs.take i)).map eH++[eH (nrmR rs[i])]:=by
    unfold nrmL
    rw[List.take_succ_eq_append_getElem hlt,List.map_append,List.map_append]
    rfl
   have hwd:=not_wide hg
   obtain ⟨h1,h2,h3,h4,h5⟩:=good_iff.1 hg
   clear hg hgood
   generalize rs[i]=r at *
   have cw:=c66 r
   rw[if_neg hwd]at cw
   have cn:=c44ax r (by omega) (by omega) (by omega) (by omega) h5
   have k1:(2<(r.m1.size:Int))=False:=eq_false (by omega)
   have k2:(2<(r.m2.size:Int))=False:=eq_false (by omega)
   have k3:(2<(r.m3.size:Int))=False:=eq_false (by omega)
   have k4:(3<(r.m4.size:Int))=False:=eq_false (by omega)
   simp only[eRP]at es1
   clear hwd h5
   generalize nrmR r=nr at *
   repeat' (first|refine zg ?_|(refine AW.cond rfl ?_ ?_<;>intro hc<;>first|simp only[NM]at hc|omega|skip)|refine zr ?_|(refine callV.flat _ yfn_66 cw rfl rfl ?_)|(refine callV.flat _ yfn_44 cn rfl rfl ?_)|refine ⟨by omega,?_⟩|(refine zb ?_ ?_<;>intro hg<;>(try rw[hg])<;>try simp only[NM]at hg)|omega|simp -dsimp (disch:=try exact zo) only[go_sem,hl,es1,k1,k2,k3,k4,ZT,zl,hXl,eHs_in,eRPs_in]|contradiction|rfl)
   all_goals exact AW.stop ⟨⟨i+1,by omega,hg2⟩,(Weak.t4 (by refine ⟨?_,?_,?_,?_⟩<;>first|(simp -dsimp (disch:=try exact zo) only[go_sem,hX1,ZC];done)|(simp -dsimp (disch:=try exact zo) only[go_sem,eHs_in,eRPs_in,ZC];done))),by dsimp only;omega⟩
  ·clear hgood
   generalize rs[i]=r at *
   have cw:=c66 r
   simp only[eRP]at es1
   have hnotg:¬ goodR r=true:=hg
   clear hg
   by_cases hwd:wideR r
   ·rw[if_pos hwd]at cw
    have k1:True:=trivial
    have k2:True:=trivial
    have k3:True:=trivial
    have k4:True:=trivial
    clear hwd hnotg
    repeat' (first|refine zg ?_|(refine AW.cond rfl ?_ ?_<;>intro hc<;>first|simp only[NM]at hc|omega|skip)|refine zr ?_|(refine callV.flat _ yfn_66 cw rfl rfl ?_)|refine ⟨by omega,?_⟩|(refine zb ?_ ?_<;>intro hg<;>(try rw[hg])<;>try simp only[NM]at hg)|omega|simp -dsimp (disch:=try exact zo) only[go_sem,hl,es1,k1,k2,k3,k4,ZT,zl,hXl,eHs_in,eRPs_in]|contradiction|rfl)
   ·rw[if_neg hwd]at cw
    have hsz:¬ (r.m1.size≤2∧r.m2.size≤2∧r.m3.size≤2∧r.m4.size≤3):=fun hh=>hnotg (good_iff.2 ⟨hh.1,hh.2.1,hh.2.2.1,hh.2.2.2,fun hz=>hwd (by unfold wideR;exact .inr (.inr (.inr (.inr hz))))⟩)
    clear hwd hnotg
    by_cases q1:2<r.m1.size
    ·have k1:(2<(r.m1.size:Int))=True:=eq_true (by omega)
     have k2:True:=trivial
     have k3:True:=trivial
     have k4:True:=trivial
     clear hsz
     repeat' (first|refine zg ?_|(refine AW.cond rfl ?_ ?_<;>intro hc<;>first|simp only[NM]at hc|omega|skip)|refine zr ?_|(refine callV.flat _ yfn_66 cw rfl rfl ?_)|refine ⟨by omega,?_⟩|(refine zb ?_ ?_<;>intro hg<;>(try rw[hg])<;>try simp only[NM]at hg)|omega|simp -dsimp (disch:=try exact zo) only[go_sem,hl,es1,k1,k2,k3,k4,ZT,zl,hXl,eHs_in,eRPs_in]|contradiction|rfl)
    ·skip
     by_cases q2:2<r.m2.size
     ·have k1:(2<(r.m1.size:Int))=False:=eq_false (by omega)
      have k2:(2<(r.m2.size:Int))=True:=eq_true (by omega)
      have k3:True:=trivial
      have k4:True:=trivial
      clear hsz
      repeat' (first|refine zg ?_|(refine AW.cond rfl ?_ ?_<;>intro hc<;>first|simp only[NM]at hc|omega|skip)|refine zr ?_|(refine callV.flat _ yfn_66 cw rfl rfl ?_)|refine ⟨by omega,?_⟩|(refine zb ?_ ?_<;>intro hg<;>(try rw[hg])<;>try simp only[NM]at hg)|omega|simp -dsimp (disch:=try exact zo) only[go_sem,hl,es1,k1,k2,k3,k4,ZT,zl,hXl,eHs_in,eRPs_in]|contradiction|rfl)
     ·skip
      by_cases q3:2<r.m3.size
      ·have k1:(2<(r.m1.size:Int))=False:=eq_false (by omega)
       have k2:(2<(r.m2.size:Int))=False:=eq_false (by omega)
       have k3:(2<(r.m3.size:Int))=True:=eq_true (by omega)
       have k4:True:=trivial
       clear hsz
       repeat' (first|refine zg ?_|(refine AW.cond rfl ?_ ?_<;>intro hc<;>first|simp only[NM]at hc|omega|skip)|refine zr ?_|(refine callV.flat _ yfn_66 cw rfl rfl ?_)|refine ⟨by omega,?_⟩|(refine zb ?_ ?_<;>intro hg<;>(try rw[hg])<;>try simp only[NM]at hg)|omega|simp -dsimp (disch:=try exact zo) only[go_sem,hl,es1,k1,k2,k3,k4,ZT,zl,hXl,eHs_in,eRPs_in]|contradiction|rfl)
      ·skip
       have q4:3<r.m4.size:=by omega
       have k1:(2<(r.m1.size:Int))=False:=eq_false (by omega)
       have k2:(2<(r.m2.size:Int))=False:=eq_false (by omega)
       have k3:(2<(r.m3.size:Int))=False:=eq_false (by omega)
       have k4:(3<(r.m4.size:Int))=True:=eq_true (by omega)
       clear hsz
       repeat' (first|refine zg ?_|(refine AW.cond rfl ?_ ?_<;>intro hc<;>first|simp only[NM]at hc|omega|skip)|refine zr ?_|(refine callV.flat _ yfn_66 cw rfl rfl ?_)|refine ⟨by omega,?_⟩|(refine zb ?_ ?_<;>intro hg<;>(try rw[hg])<;>try simp only[NM]at hg)|omega|simp -dsimp (disch:=try exact zo) only[go_sem,hl,es1,k1,k2,k3,k4,ZT,zl,hXl,eHs_in,eRPs_in]|contradiction|rfl)
 ·have hil:i=rs.length:=by omega
  subst hil
  exfalso
  refine hnall fun r hr=>?_
  obtain ⟨q,hq,rfl⟩:=List.getElem_of_mem hr
  exact hgood q (by omega) hq
set_option maxRecDepth 20000 in
set_option maxHeartbeats 16000000 in
theorem c18b (rs:List RP) (most:Nat) (h:rs.length≤most) (hm:most≤64) (hall:∀ r∈rs,goodR r=true):CallNw Tryz.prog 18 [.sl (eRPs rs),.lit (.int .i64 most)] (.tup [.sl ((nrmL rs).map eH),.lit (.bool true)]):=by
 refine CallNw.flat Tryz.func18 rfl 63 rfl rfl (flatPl _) [.tmp 4,.tmp 5] (congrArg Array.toList Tryz.results18) ?_
 simp only[startT,Nat.reduceAdd]
 have hz0:(nrmL []).map eH=[]:=rfl
 have hml:maxLen=9223372036854775807:=rfl
 have hl:(eRPs rs).length=rs.length:=List.length_map _
 repeat' (first|refine zg ?_|(refine AW.cond rfl ?_ ?_<;>intro hc<;>first|simp only[NM]at hc|omega|skip)|refine zr ?_|refine ⟨by omega,?_⟩|(refine zb ?_ ?_<;>intro hg<;>(try rw[hg])<;>try simp only[NM]at hg)|omega|simp -dsimp (disch:=try exact zo) only[go_sem,hl,zl]|contradiction|rfl)
 refine AW.loop (fun z:{i:Nat // i≤rs.length∧∀ q,q<i→∀ h:q<rs.length,goodR rs[q]=true}=>⟨[(17,.lit (.int .i64 z.1)),(16,.lit (.int .i64 rs.length)),(15,.sl (eRPs rs)),(6,.ref 18 0 z.1 z.1)],[(18,.vec 8 ((nrmL (rs.take z.1)).map eH))],60⟩) (fun z=>rs.length - z.1) ⟨0,Nat.zero_le _,fun q hq=>by omega⟩ (Weak.trans (Weak.nil 6 8 (by decide) rfl) (Weak.t4 (by refine ⟨?_,?_,?_,?_⟩<;>simp -dsimp (disch:=try exact zo) only[go_sem,List.take_zero,hz0,eHs_in,eRPs_in,ZC]))) ?_
 rintro ⟨i,hi,hgood⟩
 dsimp only
 have hXl:((nrmL (rs.take i)).map eH).length=i:=by rw[List.length_map];unfold nrmL;rw[List.length_map,List.length_take];omega
 by_cases hlt:i<rs.length
 ·have es1:=eRPs_getD rs i hlt
  by_cases hg:goodR rs[i]=true
  ·have hg2:∀ q,q<i+1→∀ h:q<rs.length,goodR rs[q]=true:=fun q hq h=>by
    by_cases e:q=i
    ·subst e;exact hg
    ·exact hgood q (by omega) h
   have hX1:(nrmL (rs.take (i+1))).map eH=(nrmL (rs.take i)).map eH++[eH (nrmR rs[i])]:=by
    unfold nrmL
    rw[List.take_succ_eq_append_getElem hlt,List.map_append,List.map_append]
    rfl
   have hwd:=not_wide hg
   obtain ⟨h1,h2,h3,h4,h5⟩:=good_iff.1 hg
   clear hg hgood
   generalize rs[i]=r at *
   have cw:=c66 r
   rw[if_neg hwd]at cw
   have cn:=c44ax r (by omega) (by omega) (by omega) (by omega) h5
   have k1:(2<(r.m1.size:Int))=False:=eq_false (by omega)
   have k2:(2<(r.m2.size:Int))=False:=eq_false (by omega)
   have k3:(2<(r.m3.size:Int))=False:=eq_false (by omega)
   have k4:(3<(r.m4.size:Int))=False:=eq_false (by omega)
   simp only[eRP]at es1
   clear hwd h5
   generalize nrmR r=nr at *
   repeat' (first|refine zg ?_|(refine AW.cond rfl ?_ ?_<;>intro hc<;>first|simp only[NM]at hc|omega|skip)|refine zr ?_|(refine callV.flat _ yfn_66 cw rfl rfl ?_)|(refine callV.flat _ yfn_44 cn rfl rfl ?_)|refine ⟨by omega,?_⟩|(refine zb ?_ ?_<;>intro hg<;>(try rw[hg])<;>try simp only[NM]at hg)|omega|simp -dsimp (disch:=try exact zo) only[go_sem,hl,es1,k1,k2,k3,k4,ZT,zl,hXl,eHs_in,eRPs_in]|contradiction|rfl)
   all_goals exact AW.stop ⟨⟨i+1,by omega,hg2⟩,(Weak.t4 (by refine ⟨?_,?_,?_,?_⟩<;>first|(simp -dsimp (disch:=try exact zo) only[go_sem,hX1,ZC];done)|(simp -dsimp (disch:=try exact zo) only[go_sem,eHs_in,eRPs_in,ZC];done))),by dsimp only;omega⟩
  ·exact absurd (hall _ (List.getElem_mem hlt)) hg
 ·have hil:i=rs.length:=by omega
  subst hil
  rw[List.take_length]at hXl ⊢
  generalize hE:(nrmL rs).map eH=E at *
  have hbw:=bw_tl hXl
  have bw_tl0:True:=trivial
  repeat' (first|refine zg ?_|(refine AW.cond rfl ?_ ?_<;>intro hc<;>first|simp only[NM]at hc|omega|skip)|refine zn ?_|refine ⟨by omega,?_⟩|(refine zb ?_ ?_<;>intro hg<;>(try rw[hg])<;>try simp only[NM]at hg)|omega|simp -dsimp (disch:=try exact zo) only[go_sem,hl,zl,hXl,bw_tl0,hbw]|contradiction|rfl)
end Go.Proofs.Vx
namespace Go.Sx
set_option linter.unusedVariables false
theorem Qd_inj {a b:Rat} (h:Qd a=Qd b):a.den=b.den:=by
 unfold Qd at h
 have ha:=a.den_nz
 have hb:=b.den_nz
 split at h<;>split at h
 ·omega
 ·exact absurd ((nb_eq_empty _).1 h.symm) hb
 ·exact absurd ((nb_eq_empty _).1 h) ha
 ·exact nb_inj h
theorem eq3 (a b:Rat):eqCs [.lit (.bool (Zn a.num)),.lit (.string (Zm a.num)),.lit (.string (Qd a))] [.lit (.bool (Zn b.num)),.lit (.string (Zm b.num)),.lit (.string (Qd b))]=decide (a=b):=by
 by_cases h:a=b
 ·subst h
  simp[eqCs,ceq]
 ·have:¬ (Zn a.num=Zn b.num∧Zm a.num=Zm b.num∧Qd a=Qd b):=fun h'=>h (Rat.ext (eZ_inj h'.1 h'.2.1) (Qd_inj h'.2.2))
  rw[decide_eq_false h]
  simp only[eqCs,ceq,Bool.and_true]
  apply Bool.eq_false_iff.2
  intro hh
  simp only[Bool.and_eq_true,beq_iff_eq,decide_eq_true_eq]at hh
  exact this ⟨hh.1,hh.2.1,hh.2.2⟩
attribute [go_sem ↓] eq3
end Go.Sx
namespace Go.Proofs.Vx
open Go Go.Sx Go.Proofs
attribute [local irreducible] fnT CallOK CallFr AW effV callV runP runO oneP oneO gcaseP hid
theorem yfn_20:fnT Tryz.prog 20=true:=by kernel_rfl
set_option maxHeartbeats 3200000 in
theorem c26 (l:List Pt) (hn:l.length≤268435456):CallOK Tryz.prog 26 [.sl (l.map eP),.sl (l.map eP)] [] (.lit (.bool true)) []:=by
 refine CallOK.flat Tryz.func26 rfl 26 rfl rfl rfl [.tmp 4] (congrArg Array.toList Tryz.results26) ?_
 simp only[startT,Nat.reduceAdd]
 have hl:(l.map eP).length=l.length:=List.length_map _
 repeat' (first|refine zg ?_|(refine AW.cond rfl ?_ ?_<;>intro hc<;>first|simp only[NM]at hc|omega|skip)|refine zr ?_|refine ⟨by omega,?_⟩|(refine zb ?_ ?_<;>intro hg<;>(try rw[hg])<;>try simp only[NM]at hg)|omega|simp -dsimp (disch:=try exact zo) only[go_sem,hl]|contradiction|rfl)
 refine AW.loop (fun z:{i:Nat // i≤l.length}=>⟨[(5,.lit (.int .i64 z.1)),(0,.sl (l.map eP)),(1,.sl (l.map eP))],[],30⟩) (fun z=>l.length - z.1) ⟨0,Nat.zero_le _⟩ (Weak.t4 (by refine ⟨?_,?_,?_,?_⟩<;>simp -dsimp (disch:=try exact zo) only[go_sem,eP_in,ZC])) ?_
 rintro ⟨i,hi⟩
 dsimp only
 by_cases hlt:i<l.length
 ·have ea:=eP_getD l i hlt
  generalize l[i]=a at *
  simp only[eP,e4]at ea
  repeat' (first|refine zg ?_|(refine AW.cond rfl ?_ ?_<;>intro hc<;>first|simp only[NM]at hc|omega|skip)|refine zr ?_|refine ⟨by omega,?_⟩|(refine zb ?_ ?_<;>intro hg<;>(try rw[hg])<;>try simp only[NM]at hg)|omega|simp -dsimp (disch:=try exact zo) only[go_sem,hl,ea,ZT,and_self]|contradiction|rfl)
  all_goals exact AW.stop ⟨⟨i+1,by omega⟩,(Weak.t4 (by refine ⟨?_,?_,?_,?_⟩<;>simp -dsimp (disch:=try exact zo) only[go_sem,eP_in,ZC])),by dsimp only;omega⟩
 ·repeat' (first|refine zg ?_|(refine AW.cond rfl ?_ ?_<;>intro hc<;>first|simp only[NM]at hc|omega|skip)|refine zr ?_|refine ⟨by omega,?_⟩|(refine zb ?_ ?_<;>intro hg<;>(try rw[hg])<;>try simp only[NM]at hg)|omega|simp -dsimp (disch:=try exact zo) only[go_sem,hl]|contradiction|rfl)
theorem inCell {K:Nat→Prop} (l:PCell):In K (.agg [.sl (eS l)]):=.agg _ (by
 intro c hc
 simp only[List.mem_cons,List.not_mem_nil,or_false]at hc
 subst hc
 exact .sl _ (of_eq_true (eS_in l)))
theorem inPair {K:Nat→Prop} (l m:PCell):In K (.tup [.agg [.sl (eS l)],.agg [.sl (eS m)]]):=.tup _ (by
 intro c hc
 simp only[List.mem_cons,List.not_mem_nil,or_false]at hc
 rcases hc with rfl|rfl<;>exact inCell _)
theorem cutP_succ (ps:List Pl) (i:Nat) (h:i<ps.length):cutP (ps.take (i+1))=cutStep (cutP (ps.take i)) ps[i]:=by
 unfold cutP
 rw[List.take_succ_eq_append_getElem h,List.foldl_append]
 rfl
theorem eH_getD (l:List Pl) (i:Nat) (h:i<l.length):(l.map eH).getD i []=eH l[i]:=by
 rw[List.getD_eq_getElem?_getD,List.getElem?_eq_getElem (by simpa using h)];simp
theorem kB_8:kB 8=2553:=by decide
theorem cut_bdC {ps:List Pl} (hb:∀ p∈ps,BPl 3 p) (hn:ps.length≤8):BdC (cutP ps):=(cutP_bd hb 8 hn (Nat.le_refl _)).mono (by decide) (by decide) (by rw[kB_8];decide)
set_option maxHeartbeats 8000000 in
theorem c20 (ps:List Pl) (hb:∀ p∈ps,BPl 3 p) (hn:ps.length≤8):CallOK Tryz.prog 20 [.sl (ps.map eH)] [] (.agg [.sl (eS (cutP ps))]) []:=by
 refine CallOK.closed Tryz.func20 rfl 28 rfl rfl (inCell _) [.cell 2 33] (congrArg Array.toList Tryz.results20) ?_
 simp only[startT,Nat.reduceAdd]
 have hml:maxLen=9223372036854775807:=rfl
 have hl:(ps.map eH).length=ps.length:=List.length_map _
 have h00:cutP []=worldP:=rfl
 repeat' (first|refine zg ?_|(refine AW.cond rfl ?_ ?_<;>intro hc<;>first|simp only[NM]at hc|omega|skip)|refine zr ?_|(refine callV.plain _ yfn_57 c57 (by simp) (inCell _) ?_)|refine ⟨by omega,?_⟩|(refine zb ?_ ?_<;>intro hg<;>(try rw[hg])<;>try simp only[NM]at hg)|omega|simp -dsimp (disch:=try exact zo) only[go_sem,hl]|contradiction|rfl)
 refine AW.loop (fun z:{i:Nat // i≤ps.length}=>⟨[(11,.lit (.int .i64 z.1)),(10,.lit (.int .i64 ps.length)),(9,.sl (ps.map eH)),(3,.loc 10 0),(2,.loc 8 0)],[(10,.blk [.sl (eS (cutP (ps.take z.1)))]),(8,.blk [.lit (.slice none 0 0)])],60⟩) (fun z=>ps.length - z.1) ⟨0,Nat.zero_le _⟩ (Weak.t4 (by refine ⟨?_,?_,?_,?_⟩<;>simp -dsimp (disch:=try exact zo) only[go_sem,List.take_zero,h00,eS_in,eHs_in,ZC])) ?_
 rintro ⟨i,hi⟩
 dsimp only
 by_cases hlt:i<ps.length
 ·have es1:=eH_getD ps i hlt
  have hst:=cutP_succ ps i hlt
  have hbi:=hb _ (List.getElem_mem hlt)
  have hok:=cutP_ok (ps.take i)
  have hbd:=cut_bdC (ps:=ps.take i) (fun p hp=>hb p (List.mem_of_mem_take hp)) (by rw[List.length_take];omega)
  generalize ps[i]=p at *
  have c21v:=c21x (cutP (ps.take i)) p (.inr hok) hbd (hbi.mono (by decide))
  generalize cutP (ps.take i)=c at *
  unfold cutStep at hst
  generalize (splitP p c).1=X at *
  generalize (splitP p c).2=Y at *
  have hlX:(eS X).length=X.length:=List.length_map _
  simp only[eH,e4]at es1
  clear hok hbd hbi hb
  by_cases q:X=[]
  ·rw[if_pos q]at hst
   have k1:(0<(X.length:Int))=False:=eq_false (by subst q;simp)
   clear q
   repeat' (first|refine zg ?_|(refine AW.cond rfl ?_ ?_<;>intro hc<;>first|simp only[NM]at hc|omega|skip)|refine zr ?_|(refine callV.plain _ yfn_21 c21v (by simp -dsimp (disch:=try exact zo) only[go_sem,eS_in,eP_in]) (inPair _ _) ?_)|refine ⟨by omega,?_⟩|(refine zb ?_ ?_<;>intro hg<;>(try rw[hg])<;>try simp only[NM]at hg)|omega|simp -dsimp (disch:=try exact zo) only[go_sem,hl,es1,k1,hlX,ZT,eS_in,eHs_in]|contradiction|rfl)
   all_goals exact AW.stop ⟨⟨i+1,by omega⟩,(Weak.t4 (by refine ⟨?_,?_,?_,?_⟩<;>simp -dsimp (disch:=try exact zo) only[go_sem,eS_in,eHs_in,hst,ZC])),by dsimp only;omega⟩
  ·rw[if_neg q]at hst
   have k1:(0<(X.length:Int))=True:=eq_true (by have:=List.length_pos_iff.2 q;omega)
   clear q
   repeat' (first|refine zg ?_|(refine AW.cond rfl ?_ ?_<;>intro hc<;>first|simp only[NM]at hc|omega|skip)|refine zr ?_|(refine callV.plain _ yfn_21 c21v (by simp -dsimp (disch:=try exact zo) only[go_sem,eS_in,eP_in]) (inPair _ _) ?_)|refine ⟨by omega,?_⟩|(refine zb ?_ ?_<;>intro hg<;>(try rw[hg])<;>try simp only[NM]at hg)|omega|simp -dsimp (disch:=try exact zo) only[go_sem,hl,es1,k1,hlX,ZT,eS_in,eHs_in]|contradiction|rfl)
   all_goals exact AW.stop ⟨⟨i+1,by omega⟩,(Weak.t4 (by refine ⟨?_,?_,?_,?_⟩<;>simp -dsimp (disch:=try exact zo) only[go_sem,eS_in,eHs_in,hst,ZC])),by dsimp only;omega⟩
 ·have hil:i=ps.length:=by omega
  subst hil
  rw[List.take_length]
  repeat' (first|refine zg ?_|(refine AW.cond rfl ?_ ?_<;>intro hc<;>first|simp only[NM]at hc|omega|skip)|refine zr ?_|refine ⟨by omega,?_⟩|(refine zb ?_ ?_<;>intro hg<;>(try rw[hg])<;>try simp only[NM]at hg)|omega|simp -dsimp (disch:=try exact zo) only[go_sem,hl]|contradiction|rfl)
def floorP:Pl:=⟨0,0,1,0⟩
def topP:Pl:=⟨0,0,1,1000⟩
theorem fx1:volP worldP=((8000000000:Int):Rat):=by decide +kernel
theorem fx2:volP (splitP floorP worldP).1=((4000000000:Int):Rat):=by decide +kernel
theorem fx3:(splitP topP worldP).1=worldP:=by decide +kernel
theorem fx4:(splitP topP worldP).2=[]:=by decide +kernel
theorem fx5:sg ((8000000000:Int):Rat).num=1:=by decide +kernel
theorem floor_bs:BPl 2 floorP:=⟨⟨(Zm_size _ _).2 (by decide),(Zm_size _ _).2 (by decide),(Zm_size _ _).2 (by decide),(Zm_size _ _).2 (by decide)⟩⟩
theorem top_bs:BPl 2 topP:=⟨⟨(Zm_size _ _).2 (by decide),(Zm_size _ _).2 (by decide),(Zm_size _ _).2 (by decide),(Zm_size _ _).2 (by decide)⟩⟩
theorem qs8:Qs 68719476735 ((8000000000:Int):Rat):=⟨Nat.le_trans ((Zm_size 8000000000 8).2 (by decide)) (by decide),by show (nb 1).size≤_;rw[nb_one];decide⟩
end Go.Proofs.Vx
namespace Go.Proofs.Vx
open Go Go.Sx Go.Proofs
attribute [local irreducible] fnT CallOK CallFr AW effV callV runP runO oneP oneO gcaseP hid
theorem yqq_Nx47:boT Tryz.prog 41=false∧Tryz.prog.eqGuardType Tryz.prog.depth 41=false∧lfT Tryz.prog 30 41=some [.b,.s,.s]:=by and_intros<;>kernel_rfl
attribute [go_sem] yqq_Nx47
theorem yfn_19:fnT Tryz.prog 19=true:=by kernel_rfl
theorem flatQ (q:Rat):Flat (.agg (eQ q)):=.agg _ (by
 intro c hc
 simp only[eQ,List.mem_cons,List.not_mem_nil,or_false]at hc
 rcases hc with rfl|rfl|rfl<;>exact .lit _)
set_option maxRecDepth 20000 in
set_option maxHeartbeats 16000000 in
theorem c19  : CallOK Tryz.prog 19 [] [] (.lit (.bool true)) []:=by
 refine CallOK.flat Tryz.func19 rfl 60 rfl rfl rfl [.tmp 0] (congrArg Array.toList Tryz.results19) ?_
 simp only[startT,Nat.reduceAdd]
 have hml:maxLen=9223372036854775807:=rfl
 have hl6:(eS worldP).length=6:=rfl
 have hl0:(eS []).length=0:=rfl
 have hw:BdC worldP:=world_bd.mono (by decide) (by decide) (by decide)
 have s1:=c21x worldP floorP (.inr world_cell) hw (floor_bs.mono (by decide))
 have s2:=c21x worldP topP (.inr world_cell) hw (top_bs.mono (by decide))
 rw[fx3,fx4]at s2
 have e1:eH floorP=[.lit (.bool false),.lit (.string ⟨#[]⟩),.lit (.bool false),.lit (.string ⟨#[]⟩),.lit (.bool (Zn 1)),.lit (.string (Zm 1)),.lit (.bool false),.lit (.string ⟨#[]⟩)]:=by simp only[eH,e4,floorP,Zn_zero,Zm_zero]
 have e2:eH topP=[.lit (.bool false),.lit (.string ⟨#[]⟩),.lit (.bool false),.lit (.string ⟨#[]⟩),.lit (.bool (Zn 1)),.lit (.string (Zm 1)),.lit (.bool (Zn 1000)),.lit (.string (Zm 1000))]:=by simp only[eH,e4,topP,Zn_zero,Zm_zero]
 rw[e1]at s1
 rw[e2]at s2
 have hw2:BdV worldP:=world_bd.mono (by decide) (by decide) (by decide)
 have v1:=c24 worldP world_cell.toCanC hw2
 rw[fx1]at v1
 have v2:=c24 (splitP floorP worldP).1 (OkC.can (split_ok world_cell).1) ((split_bd (.inr world_cell) world_bd floor_bs (by decide)).1.mono (by decide) (by decide) (by decide))
 rw[fx2]at v2
 have g1:=c23 ((8000000000:Int):Rat) qs8
 rw[fx5]at g1
 generalize (splitP floorP worldP).1=A at *
 generalize (splitP floorP worldP).2=B at *
 have w0:=c57
 generalize worldP=W at *
 clear hw hw2 e1 e2
 repeat' (first|refine zg ?_|(refine AW.cond rfl ?_ ?_<;>intro hc<;>first|simp only[NM]at hc|omega|skip)|refine zr ?_|(refine callV.plain _ yfn_57 w0 (by simp) (inCell _) ?_)|(first|refine callV.flat _ yfn_67 (c67 1 (by decide)) rfl rfl ?_|refine callV.flat _ yfn_67 (c67 1000 (by decide)) rfl rfl ?_)|(first|refine callV.plain _ yfn_21 s1 (by simp -dsimp (disch:=try exact zo) only[go_sem,eS_in,eP_in]) (inPair _ _) ?_|refine callV.plain _ yfn_21 s2 (by simp -dsimp (disch:=try exact zo) only[go_sem,eS_in,eP_in]) (inPair _ _) ?_)|(first|refine callV.plain _ yfn_24 v1 (by simp -dsimp (disch:=try exact zo) only[go_sem,eS_in]) (flatQ _).in ?_|refine callV.plain _ yfn_24 v2 (by simp -dsimp (disch:=try exact zo) only[go_sem,eS_in]) (flatQ _).in ?_)|(refine callV.flat _ yfn_23 g1 rfl rfl ?_)|(first|refine callV.flat _ yfn_68 (c68 8000000000 (by decide)) rfl rfl ?_|refine callV.flat _ yfn_68 (c68 4000000000 (by decide)) rfl rfl ?_)|refine ⟨by omega,?_⟩|(refine zb ?_ ?_<;>intro hg<;>(try rw[hg])<;>try simp only[NM]at hg)|omega|simp -dsimp (disch:=try exact zo) only[go_sem,hl6,hl0,eS_in]|contradiction|rfl)
end Go.Proofs.Vx
